/- A part of the proof: Form9 Form10 Same Lit Al2 ClP Range3. -/
import Derived.Test.YteopodbkhgcpmaaGreatDoorM1
import Derived.Test.YteopodbkhgcpmaaGreatDoorM2
import Derived.Test.YteopodbkhgcpmaaGreatDoorM3
import Derived.Test.YteopodbkhgcpmaaGreatDoorM8
import Derived.Test.YteopodbkhgcpmaaGreatDoorM16
import Derived.Test.YteopodbkhgcpmaaGreatDoorM18
import Derived.Test.YteopodbkhgcpmaaGreatDoorM19
set_option linter.unusedSimpArgs false
set_option linter.unusedVariables false
set_option linter.unusedSectionVars false
namespace Go.Proofs.YteopodbkhgcpmaaGreatDoor
section
set_option maxRecDepth 20000
open Go Go.RowKit Go.SL

set_option maxHeartbeats 4000000 in
theorem writeBin (op:Int) (p q:T) (ht:okT (.bin op p q)) (hsz:size (.bin op p q)≤1000000) (ih1:WC p) (ih2:WC q):WC (.bin op p q):=by
 intro b l v H last w0 w R hT hS hf hb htb hl
 have HX:=hid (uo op p q last)
 obtain⟨X,hX⟩:∃ X,X=wr (.bin op p q) last:=⟨_,rfl⟩
 rw[← hX] at HX ⊢
 clear hX
 obtain⟨va,vb,hva,hvb,bv,rfl,hbv⟩:=hT
 have c2:celH H bv 2=some (.int .i64 op):=by simp[celH,hbv]
 have c3:celH H bv 3=some va:=by simp[celH,hbv]
 have c4:celH H bv 4=some vb:=by simp[celH,hbv]
 obtain⟨o1,o2,kp,kq⟩:=ht
 simp only[size] at hl hsz
 obtain⟨p1,p2,p3⟩:=KK p kp (by omega)
 have k1:(opd op 0 p false).length≤40*size p+2:=by unfold opd;split <;> (try simp only[List.length_append,List.length_cons,List.length_nil]) <;> omega
 have k3:(YN op).length≤7:=by
  unfold YN;(repeat' split) <;> (decide)
 have OM1:=Ut op 0 (by unfold i64;omega) p kp (by omega) ih1 b l va H false
 have OM2:=Ut op 1 (by unfold i64;omega) q kq (by omega) ih2 b (l++opd op 0 p false++YN op) vb H last
 have SP:=spelled op (by omega) o2
 obtain⟨Ka,ba,rfl⟩:=hva.form
 obtain⟨Kb,bb,rfl⟩:=hvb.form
 generalize opd op 0 p false=O1 at *
 generalize opd op 1 q last=O2 at *
 generalize YN op=S1 at *
 clear hbv ih1 ih2
 go_enter Tryz.func39,Tryz.ntmps39
 go_wp2_with ((first|((with_reducible apply Cont.intro);(first|(focus (apply Or.inr;apply (Sat.sb hS);(repeat (first|with_reducible exact Sb.refl|(with_reducible refine Sb.take (by(repeat (with_reducible apply Rem.tl));done) ?_)|with_reducible apply Sb.skip));done))|(exact Or.inl (by kernel_rfl)));intro hR hC)|((first|((with_reducible apply dP 0 hC hR);(simp only[qL];rfl);decide +kernel;exact iQ;exact ya)|((with_reducible apply dP 1 hC hR);(simp only[qL];rfl);decide +kernel;exact iQ;exact ya)|((with_reducible apply dP 2 hC hR);(simp only[qL];rfl);decide +kernel;exact iQ;exact ya)|((with_reducible apply dP 5 hC hR);(simp only[qL];rfl);decide +kernel;exact iQ;exact ya)|((with_reducible apply dP 6 hC hR);(simp only[qL];rfl);decide +kernel;exact iQ;exact ya));(intro w;first|(go_simp;done)|(go_simp;rw[yo (by omega) (by omega)])|(go_simp;with_reducible rfl)|(go_simp;rfl));(clear hR hC;intro hR hC))|((first|((with_reducible apply dP 3 hC hR);(simp only[qL];rfl);decide +kernel;exact iQ;exact ya)|((with_reducible apply dP 7 hC hR);(simp only[qL];rfl);decide +kernel;exact iQ;exact ya));(intro w;first|(exact yz rfl (by(exact yg)) (by assumption) (by with_reducible exact fo7_0))|(go_simp;done)|(go_simp;rw[yo (by omega) (by omega)])|(go_simp;with_reducible rfl)|(go_simp;rfl));(clear hR hC;intro hR hC))|((first|((with_reducible apply dR 4 hC hR);(simp only[qL];rfl);decide +kernel;exact iQ;exact ya)|((with_reducible apply dR 8 hC hR);(simp only[qL];rfl);decide +kernel;exact iQ;exact ya));(intro w hS;(apply yj rfl (by(exact yb rfl)));first|exact yc (by decide +kernel) (hS.cell (by(repeat (with_reducible apply yd))) rfl)|exact yc (by decide +kernel) ((hS.ownCell (by(repeat (with_reducible apply yd))) (by(rfl))).1)|exact yc (by decide +kernel) (Sat.rdCell2 (by assumption) hS (by((repeat (with_reducible apply yd)));try assumption) (by(rfl)))|exact yc (by decide +kernel) (hS.baseCell (by((repeat (with_reducible apply yd)));try assumption) (by assumption))|exact yc (by decide +kernel) (fzC (by assumption) hS (by((repeat (with_reducible apply yd)));try assumption))|exact yl hS (by assumption) (by((repeat (with_reducible apply yd)));try assumption) (by assumption) (by rfl) (by with_reducible exact sz7) (by decide +kernel) (by decide)|exact hS.loadWhole (by(repeat (with_reducible apply yd))) (by kernel_rfl) (by kernel_rfl));(clear hR hC;intro hR hC))|((with_reducible apply yq (i:=9));(simp only[qL];rfl);decide +kernel;exact hC;clear hR hC)|((with_reducible apply ym);decide +kernel;clear hR hC)|(refine yt 23 10 hS (by kernel_rfl) [9] rfl ?_;clear hS;intro w hS hR hC)|((with_reducible apply yq (i:=10));(simp only[qL];rfl);decide +kernel;exact hC;clear hR hC)|(refine yt 25 11 hS (by kernel_rfl) [10] rfl ?_;clear hS;intro w hS hR hC)|((with_reducible apply Ye);exact ya;exact yb rfl;(with_reducible exact Tryz.underlying118))|((with_reducible apply Yh);exact ya;exact yb rfl;(decide);(with_reducible first|exact Tryz.underlying104|exact Tryz.underlying109|exact Tryz.underlying112|exact Tryz.underlying115);kernel_rfl)|((with_reducible apply YO hS);exact ya;exact yb rfl;assumption;(((repeat (with_reducible apply yd)));(try assumption));decide +kernel)|(go_at_call 72;refine (SP _ _ _ hS).mono ?_;clear hS;rintro e w ⟨rfl,hS⟩)|(go_at_call 67;refine (kz b _ _ _ _ _ hS (by simp;omega)).mono ?_;clear hS;rintro e w ⟨rfl,hS⟩)|(go_at_call 71;(first|with_reducible refine (OM1 _ _ R hva hS hf hb htb (by omega)).mono ?_|with_reducible refine (OM2 _ _ R hvb hS hf hb htb (by simp;omega)).mono ?_);clear hS;rintro e w ⟨rfl,hS⟩));try simp only[qA])
 go_end0
 exact⟨rfl,by rw[HX.out];simpa using hS⟩
set_option maxHeartbeats 4000000 in
theorem writeIte (c p q:T) (ht:okT (.ite c p q)) (hsz:size (.ite c p q)≤1000000) (ih0:WC c) (ih1:WC p) (ih2:WC q):WC (.ite c p q):=by
 intro b l v H last w0 w R hT hS hf hb htb hl
 have HX:=hid (UT c p q last)
 obtain⟨X,hX⟩:∃ X,X=wr (.ite c p q) last:=⟨_,rfl⟩
 rw[← hX] at HX ⊢
 clear hX
 obtain⟨vc,va,vb,hvc,hva,hvb,bv,rfl,hbv⟩:=hT
 have c2:celH H bv 2=some vc:=by simp[celH,hbv]
 have c3:celH H bv 3=some va:=by simp[celH,hbv]
 have c4:celH H bv 4=some vb:=by simp[celH,hbv]
 obtain⟨kc,kp,kq⟩:=ht
 simp only[size] at hl hsz
 obtain⟨n1,n2,n3⟩:=KK c kc (by omega)
 obtain⟨p1,p2,p3⟩:=KK p kp (by omega)
 obtain⟨q1,q2,q3⟩:=KK q kq (by omega)
 have W0:=ih0 b (l++[105,116,101,40]) vc H true
 have W1:=ih1 b (l++[105,116,101,40]++wr c true++[44,32]) va H true
 have W2:=ih2 b (l++[105,116,101,40]++wr c true++[44,32]++wr p true++[44,32]) vb H true
 obtain⟨Kc,bc,rfl⟩:=hvc.form
 obtain⟨Ka,ba,rfl⟩:=hva.form
 obtain⟨Kb,bb,rfl⟩:=hvb.form
 generalize wr c true=O0 at *
 generalize wr p true=O1 at *
 generalize wr q true=O2 at *
 clear hbv ih0 ih1 ih2
 go_enter Tryz.func39,Tryz.ntmps39
 go_wp2_with ((first|((with_reducible apply Ye);exact ya;exact yb rfl;(with_reducible exact Tryz.underlying121))|((with_reducible apply Yh);exact ya;exact yb rfl;(decide);(with_reducible first|exact Tryz.underlying104|exact Tryz.underlying109|exact Tryz.underlying112|exact Tryz.underlying115|exact Tryz.underlying118);kernel_rfl)|((with_reducible apply YO hS);exact ya;exact yb rfl;assumption;(((repeat (with_reducible apply yd)));(try assumption));decide +kernel)|(go_at_call 67;refine (kz b _ _ _ _ _ hS (by simp;omega)).mono ?_;clear hS;rintro e w ⟨rfl,hS⟩)|(go_at_call 70;refine (Jw b _ 41 41 rfl _ _ _ hS (by simp;omega)).mono ?_;clear hS;rintro e w ⟨rfl,hS⟩)|(go_at_call 39;(first|with_reducible refine (W0 _ _ R hvc hS hf hb htb (by simp;omega)).mono ?_|with_reducible refine (W1 _ _ R hva hS hf hb htb (by simp;omega)).mono ?_|with_reducible refine (W2 _ _ R hvb hS hf hb htb (by simp;omega)).mono ?_);clear hS;rintro e w ⟨rfl,hS⟩));try simp only[qA])
 go_end0
 exact⟨rfl,by rw[HX.out];simpa using hS⟩

set_option maxHeartbeats 4000000 in
theorem writeQu (op n:Int) (a:T) (ht:okT (.qu op n a)) (hsz:size (.qu op n a)≤1000000) (ih:∀ u,size u < size (.qu op n a)→okT u→WC u):WC (.qu op n a):=by
 intro b l v H last w0 w R hT hS hf hb htb hl
 have HX:=hid (gE op n a last)
 obtain⟨X,hX⟩:∃ X,X=wr (.qu op n a) last:=⟨_,rfl⟩
 rw[← hX] at HX ⊢
 clear hX
 obtain⟨va,hva,bv,rfl,hbv⟩:=hT
 have c2:celH H bv 2=some (.int .i64 op):=by simp[celH,hbv]
 have c3:celH H bv 3=some (.int .i64 n):=by simp[celH,hbv]
 have c4:celH H bv 4=some va:=by simp[celH,hbv]
 obtain⟨o1,n1,n2,ka⟩:=ht
 simp only[size] at hl hsz
 obtain⟨p1,p2,p3⟩:=KK a ka (by omega)
 have p4:=p3 op
 have hil:=Lib.itoa_length_le n (by omega) (by omega)
 have k3:(YN op).length≤7:=by rcases o1 with rfl|rfl <;> decide
 have SP:=spelled op (by omega) (by omega)
 obtain⟨Ka,ba,rfl⟩:=hva.form
 have hch:(kK op a).length≤40*size a+2:=p4
 have HIH:=hid ih
 generalize YN op=S1 at *
 clear hbv p4 ih o1
 go_enter Tryz.func39,Tryz.ntmps39
 go_wp2_with ((first|((with_reducible apply Cont.intro);(first|(focus (apply Or.inr;apply (Sat.sb hS);(repeat (first|with_reducible exact Sb.refl|(with_reducible refine Sb.take (by(repeat (with_reducible apply Rem.tl));done) ?_)|with_reducible apply Sb.skip));done))|(exact Or.inl (by kernel_rfl)));intro hR hC)|((first|((with_reducible apply dP 0 hC hR);(simp only[qL];rfl);decide +kernel;exact iQ;exact ya)|((with_reducible apply dP 1 hC hR);(simp only[qL];rfl);decide +kernel;exact iQ;exact ya)|((with_reducible apply dP 2 hC hR);(simp only[qL];rfl);decide +kernel;exact iQ;exact ya)|((with_reducible apply dP 7 hC hR);(simp only[qL];rfl);decide +kernel;exact iQ;exact ya)|((with_reducible apply dP 8 hC hR);(simp only[qL];rfl);decide +kernel;exact iQ;exact ya));(intro w;first|(go_simp;done)|(go_simp;rw[yo (by omega) (by omega)])|(go_simp;with_reducible rfl)|(go_simp;rfl));(clear hR hC;intro hR hC))|((first|((with_reducible apply dP 3 hC hR);(simp only[qL];rfl);decide +kernel;exact iQ;exact ya)|((with_reducible apply dP 9 hC hR);(simp only[qL];rfl);decide +kernel;exact iQ;exact ya));(intro w;first|(exact yz rfl (by(exact yg)) (by assumption) (by with_reducible exact fo7_0))|(go_simp;done)|(go_simp;rw[yo (by omega) (by omega)])|(go_simp;with_reducible rfl)|(go_simp;rfl));(clear hR hC;intro hR hC))|((first|((with_reducible apply dP 6 hC hR);(simp only[qL];rfl);decide +kernel;exact iQ;exact ya)|((with_reducible apply dP 12 hC hR);(simp only[qL];rfl);decide +kernel;exact iQ;exact ya));(intro w;first|(exact Yd rfl (by(exact yb rfl)) (by(first|exact yb rfl|exact yg)) (by(simp only[List.length_append,List.length_cons,List.length_nil];omega)))|(go_simp;done)|(go_simp;rw[yo (by omega) (by omega)])|(go_simp;with_reducible rfl)|(go_simp;rfl));(clear hR hC;intro hR hC))|((first|((with_reducible apply dR 4 hC hR);(simp only[qL];rfl);decide +kernel;exact iQ;exact ya)|((with_reducible apply dR 10 hC hR);(simp only[qL];rfl);decide +kernel;exact iQ;exact ya));(intro w hS;(apply yj rfl (by(exact yb rfl)));first|exact yc (by decide +kernel) (hS.cell (by(repeat (with_reducible apply yd))) rfl)|exact yc (by decide +kernel) ((hS.ownCell (by(repeat (with_reducible apply yd))) (by(rfl))).1)|exact yc (by decide +kernel) (Sat.rdCell2 (by assumption) hS (by((repeat (with_reducible apply yd)));try assumption) (by(rfl)))|exact yc (by decide +kernel) (hS.baseCell (by((repeat (with_reducible apply yd)));try assumption) (by assumption))|exact yc (by decide +kernel) (fzC (by assumption) hS (by((repeat (with_reducible apply yd)));try assumption))|exact yl hS (by assumption) (by((repeat (with_reducible apply yd)));try assumption) (by assumption) (by rfl) (by with_reducible exact sz7) (by decide +kernel) (by decide)|exact hS.loadWhole (by(repeat (with_reducible apply yd))) (by kernel_rfl) (by kernel_rfl));(clear hR hC;intro hR hC))|((with_reducible apply yq (i:=5));(simp only[qL];rfl);decide +kernel;exact hC;clear hR hC)|((with_reducible apply yq (i:=11));(simp only[qL];rfl);decide +kernel;exact hC;clear hR hC)|((with_reducible apply yq (i:=13));(simp only[qL];rfl);decide +kernel;exact hC;clear hR hC)|((with_reducible apply ym);decide +kernel;clear hR hC)|(refine yt 13 14 hS (by kernel_rfl) [13] rfl ?_;clear hS;intro w hS hR hC)|((with_reducible apply Ye);exact ya;exact yb rfl;(with_reducible exact Tryz.underlying115))|((with_reducible apply Yh);exact ya;exact yb rfl;(decide);(with_reducible first|exact Tryz.underlying104|exact Tryz.underlying109|exact Tryz.underlying112);kernel_rfl)|((with_reducible apply YO hS);exact ya;exact yb rfl;assumption;(((repeat (with_reducible apply yd)));(try assumption));decide +kernel)|(go_at_call 72;refine (SP _ _ _ hS).mono ?_;clear hS;rintro e w ⟨rfl,hS⟩)|(go_at_call 69;refine (itoaC _ (by omega) (by omega) _ _ _ hS (by((repeat (with_reducible apply yd));(try assumption))) htb).mono ?_;clear hS;rintro e w ⟨rfl,hS⟩)|(go_at_call 67;refine (kz b _ _ _ _ _ hS (by simp;omega)).mono ?_;clear hS;rintro e w ⟨rfl,hS⟩));try simp only[qA])
 have hch2:size a < size (.qu op n a):=by simp[size]
 go_loopw [10] (fun x wr=>∃ (u:T) (cur:List UInt8),InT H u x∧okT u∧size u < size (.qu op n a)∧cur.length+50*size u+10≤1000000000∧cur++kK op u=l++X∧Sat w0 wr (bld b cur::R)) (fun x _=>szOf H x)
 case atStart=>exact⟨a,l++(S1++[120]++Lib.itoa n),hva,ka,hch2,by simp;omega,by rw[HX.out];simp,by simpa using hS⟩
 case round =>
  clear hS
  obtain⟨u,cur,hu,ku,su,hcl,hcur,hS⟩:=hrel
  have HC:=hid hcur
  clear hcur
  have fin:∀ (e:Ending) (w':World),JW op u=false→e=.returned (.tuple #[])∧Sat w0 w' (bld b (cur++[58,32]++Go.Proofs.YteopodbkhgcpmaaGreatDoor.wr u true)::R)→e=.returned (.tuple #[])∧Sat w0 w' (bld b (l++X)::R):=fun e w' hq h=>by
   refine ⟨h.1,?_⟩
   rw[← HC.out,Kr hq,← List.append_assoc]
   exact h.2
  have WU:=HIH.out u su ku b (cur++[58,32])
  by_cases hq:∃ o m c,u=.qu o m c
  ·obtain⟨o,m,c,rfl⟩:=hq
   have hu0:=hu
   obtain⟨vc,hvc,b2,rfl,hb2⟩:=hu
   have d2:celH H b2 2=some (.int .i64 o):=by simp[celH,hb2]
   have d3:celH H b2 3=some (.int .i64 m):=by simp[celH,hb2]
   have d4:celH H b2 4=some vc:=by simp[celH,hb2]
   obtain⟨o2,m1,m2,kc⟩:=ku
   have hml:=Lib.itoa_length_le m (by omega) (by omega)
   by_cases ho:o=op
   ·subst ho
    have HE:=hid (show cur++([44,32,120]++Lib.itoa m)++kK o c=l++X by rw[← HC.out,Jj];simp)
    have hz1:=szOf_eq hu0
    have hz2:=szOf_eq hvc
    obtain⟨Kc,bc,rfl⟩:=hvc.form
    have hms:szOf H (.iface Kc (.pointer (some ⟨bc,0,none⟩))) < szOf H (.iface 115 (.pointer (some ⟨b2,0,none⟩))):=by rw[hz1,hz2];simp[size]
    simp only[size] at hcl su
    clear fin WU hb2 hz1 hz2
    go_wp2_with ((first|((first|((with_reducible apply dP 0 hC hR);(simp only[qL];rfl);decide +kernel;exact iQ;exact ya)|((with_reducible apply dP 1 hC hR);(simp only[qL];rfl);decide +kernel;exact iQ;exact ya)|((with_reducible apply dP 2 hC hR);(simp only[qL];rfl);decide +kernel;exact iQ;exact ya)|((with_reducible apply dP 3 hC hR);(simp only[qL];rfl);decide +kernel;exact iQ;exact yf rfl rfl)|((with_reducible apply dP 4 hC hR);(simp only[qL];rfl);decide +kernel;exact iQ;exact yf rfl rfl)|((with_reducible apply dP 7 hC hR);(simp only[qL];rfl);decide +kernel;exact iQ;exact yf rfl rfl)|((with_reducible apply dP 8 hC hR);(simp only[qL];rfl);decide +kernel;exact iQ;exact yf rfl rfl)|((with_reducible apply dP 11 hC hR);(simp only[qL];rfl);decide +kernel;exact iQ;exact yf rfl rfl)|((with_reducible apply dP 12 hC hR);(simp only[qL];rfl);decide +kernel;exact iQ;exact ya));(intro w;first|(go_simp;done)|(go_simp;rw[yo (by omega) (by omega)])|(go_simp;with_reducible rfl)|(go_simp;rfl));(clear hR hC;intro hR hC))|((first|((with_reducible apply dP 5 hC hR);(simp only[qL];rfl);decide +kernel;exact iQ;exact yf rfl rfl)|((with_reducible apply dP 9 hC hR);(simp only[qL];rfl);decide +kernel;exact iQ;exact yf rfl rfl));(intro w;first|(exact yz rfl (by(exact yg)) (by assumption) (by with_reducible exact fo7_0))|(go_simp;done)|(go_simp;rw[yo (by omega) (by omega)])|(go_simp;with_reducible rfl)|(go_simp;rfl));(clear hR hC;intro hR hC))|((first|((with_reducible apply dR 6 hC hR);(simp only[qL];rfl);decide +kernel;exact iQ;exact yf rfl rfl)|((with_reducible apply dR 10 hC hR);(simp only[qL];rfl);decide +kernel;exact iQ;exact yf rfl rfl));(intro w hS;(apply yj rfl (by(exact yb rfl)));first|exact yc (by decide +kernel) (hS.cell (by(repeat (with_reducible apply yd))) rfl)|exact yc (by decide +kernel) ((hS.ownCell (by(repeat (with_reducible apply yd))) (by(rfl))).1)|exact yc (by decide +kernel) (Sat.rdCell2 (by assumption) hS (by((repeat (with_reducible apply yd)));try assumption) (by(rfl)))|exact yc (by decide +kernel) (hS.baseCell (by((repeat (with_reducible apply yd)));try assumption) (by assumption))|exact yc (by decide +kernel) (fzC (by assumption) hS (by((repeat (with_reducible apply yd)));try assumption))|exact yl hS (by assumption) (by((repeat (with_reducible apply yd)));try assumption) (by assumption) (by rfl) (by with_reducible exact sz7) (by decide +kernel) (by decide)|exact hS.loadWhole (by(repeat (with_reducible apply yd))) (by kernel_rfl) (by kernel_rfl));(clear hR hC;intro hR hC))|((with_reducible apply ym);decide +kernel;clear hR hC)|(refine yt 16 13 hS (by kernel_rfl) [] rfl ?_;clear hS;intro w hS hR hC)|((with_reducible apply Ye);exact ya;exact yb rfl;(with_reducible exact Tryz.underlying115))|((with_reducible apply YO hS);exact ya;exact yb rfl;assumption;(((repeat (with_reducible apply yd)));(try assumption));decide +kernel)|((with_reducible apply uV);exact ya;exact yg;exact yb rfl;(simp only[List.length_append,List.length_cons,List.length_nil];omega))|(go_at_call 69;refine (itoaC _ (by omega) (by omega) _ _ _ hS (by((repeat (with_reducible apply yd));(try assumption))) htb).mono ?_;clear hS;rintro e w ⟨rfl,hS⟩)|(go_at_call 67;refine (kz b _ _ _ _ _ hS (by simp;omega)).mono ?_;clear hS;rintro e w ⟨rfl,hS⟩));try simp only[qA])
    go_roundw
    case rel=>exact⟨c,cur++([44,32,120]++Lib.itoa m),hvc,kc,by simp[size];omega,by simp;omega,HE.out,by simpa using hS⟩
    case measure=>exact hms
   ·have hqf:JW op (.qu o m c)=false:=by simp[JW,ho]
    have hne:(o == op)=false:=by simp[ho]
    simp only[size] at hcl su
    clear hb2
    go_wp2_with ((first|((first|((with_reducible apply dP 0 hC hR);(simp only[qL];rfl);decide +kernel;exact iQ;exact ya)|((with_reducible apply dP 1 hC hR);(simp only[qL];rfl);decide +kernel;exact iQ;exact ya)|((with_reducible apply dP 2 hC hR);(simp only[qL];rfl);decide +kernel;exact iQ;exact ya)|((with_reducible apply dP 3 hC hR);(simp only[qL];rfl);decide +kernel;exact iQ;exact yf rfl rfl)|((with_reducible apply dP 4 hC hR);(simp only[qL];rfl);decide +kernel;exact iQ;exact yf rfl rfl)|((with_reducible apply dP 7 hC hR);(simp only[qL];rfl);decide +kernel;exact iQ;exact yf rfl rfl)|((with_reducible apply dP 8 hC hR);(simp only[qL];rfl);decide +kernel;exact iQ;exact yf rfl rfl)|((with_reducible apply dP 11 hC hR);(simp only[qL];rfl);decide +kernel;exact iQ;exact yf rfl rfl)|((with_reducible apply dP 12 hC hR);(simp only[qL];rfl);decide +kernel;exact iQ;exact ya));(intro w;first|(go_simp;done)|(go_simp;rw[yo (by omega) (by omega)])|(go_simp;with_reducible rfl)|(go_simp;rfl));(clear hR hC;intro hR hC))|((first|((with_reducible apply dP 5 hC hR);(simp only[qL];rfl);decide +kernel;exact iQ;exact yf rfl rfl)|((with_reducible apply dP 9 hC hR);(simp only[qL];rfl);decide +kernel;exact iQ;exact yf rfl rfl));(intro w;first|(exact yz rfl (by(exact yg)) (by assumption) (by with_reducible exact fo7_0))|(go_simp;done)|(go_simp;rw[yo (by omega) (by omega)])|(go_simp;with_reducible rfl)|(go_simp;rfl));(clear hR hC;intro hR hC))|((first|((with_reducible apply dR 6 hC hR);(simp only[qL];rfl);decide +kernel;exact iQ;exact yf rfl rfl)|((with_reducible apply dR 10 hC hR);(simp only[qL];rfl);decide +kernel;exact iQ;exact yf rfl rfl));(intro w hS;(apply yj rfl (by(exact yb rfl)));first|exact yc (by decide +kernel) (hS.cell (by(repeat (with_reducible apply yd))) rfl)|exact yc (by decide +kernel) ((hS.ownCell (by(repeat (with_reducible apply yd))) (by(rfl))).1)|exact yc (by decide +kernel) (Sat.rdCell2 (by assumption) hS (by((repeat (with_reducible apply yd)));try assumption) (by(rfl)))|exact yc (by decide +kernel) (hS.baseCell (by((repeat (with_reducible apply yd)));try assumption) (by assumption))|exact yc (by decide +kernel) (fzC (by assumption) hS (by((repeat (with_reducible apply yd)));try assumption))|exact yl hS (by assumption) (by((repeat (with_reducible apply yd)));try assumption) (by assumption) (by rfl) (by with_reducible exact sz7) (by decide +kernel) (by decide)|exact hS.loadWhole (by(repeat (with_reducible apply yd))) (by kernel_rfl) (by kernel_rfl));(clear hR hC;intro hR hC))|((with_reducible apply ym);decide +kernel;clear hR hC)|(refine yt 16 13 hS (by kernel_rfl) [] rfl ?_;clear hS;intro w hS hR hC)|((with_reducible apply Ye);exact ya;exact yb rfl;(with_reducible exact Tryz.underlying115))|(go_at_call 67;refine (kz b _ _ _ _ _ hS (by simp;omega)).mono ?_;clear hS;rintro e w ⟨rfl,hS⟩)|(go_at_call 39;refine (WU _ H true _ _ R hu0 hS hf hb htb (by simp[size];omega)).mono ?_;clear hS WU;rintro e w ⟨rfl,hS⟩));try simp only[qA])
    go_end0
    exact fin _ _ hqf ⟨rfl,hS⟩
  ·have hqf:JW op u=false:=by
    cases u with
    | qu o m c=>exact absurd ⟨o,m,c,rfl⟩ hq
    | _=>rfl
   obtain⟨Ku,bu,rfl,hK⟩:=hu.notQu fun o m c e=>hq ⟨o,m,c,e⟩
   go_wp2_with ((first|((first|((with_reducible apply dP 0 hC hR);(simp only[qL];rfl);decide +kernel;exact iQ;exact ya)|((with_reducible apply dP 1 hC hR);(simp only[qL];rfl);decide +kernel;exact iQ;exact ya)|((with_reducible apply dP 2 hC hR);(simp only[qL];rfl);decide +kernel;exact iQ;exact ya)|((with_reducible apply dP 12 hC hR);(simp only[qL];rfl);decide +kernel;exact iQ;exact ya));(intro w;first|(go_simp;done)|(go_simp;rw[yo (by omega) (by omega)])|(go_simp;with_reducible rfl)|(go_simp;rfl));(clear hR hC;intro hR hC))|((first|((with_reducible apply dS 3 hC hR);(simp only[qL];rfl);decide +kernel;exact iQ;(exact yr rfl rfl))|((with_reducible apply dS 4 hC hR);(simp only[qL];rfl);decide +kernel;exact iQ;(exact yr rfl rfl))|((with_reducible apply dS 5 hC hR);(simp only[qL];rfl);decide +kernel;exact iQ;(exact yr rfl rfl))|((with_reducible apply dS 6 hC hR);(simp only[qL];rfl);decide +kernel;exact iQ;(exact yr rfl rfl))|((with_reducible apply dS 7 hC hR);(simp only[qL];rfl);decide +kernel;exact iQ;(exact yr rfl rfl))|((with_reducible apply dS 8 hC hR);(simp only[qL];rfl);decide +kernel;exact iQ;(exact yr rfl rfl))|((with_reducible apply dS 9 hC hR);(simp only[qL];rfl);decide +kernel;exact iQ;(exact yr rfl rfl))|((with_reducible apply dS 10 hC hR);(simp only[qL];rfl);decide +kernel;exact iQ;(exact yr rfl rfl))|((with_reducible apply dS 11 hC hR);(simp only[qL];rfl);decide +kernel;exact iQ;(exact yr rfl rfl)));(clear hR hC;intro hR hC))|((with_reducible apply ym);decide +kernel;clear hR hC)|(refine yt 16 13 hS (by kernel_rfl) [] rfl ?_;clear hS;intro w hS hR hC)|((with_reducible apply Yh);exact ya;exact yb rfl;(assumption);exact Tryz.underlying115;kernel_rfl)|(go_at_call 67;refine (kz b _ _ _ _ _ hS (by simp;omega)).mono ?_;clear hS;rintro e w ⟨rfl,hS⟩)|(go_at_call 39;refine (WU _ H true _ _ R hu hS hf hb htb (by simp;omega)).mono ?_;clear hS WU;rintro e w ⟨rfl,hS⟩));try simp only[qA])
   go_end0
   exact fin _ _ hqf ⟨rfl,hS⟩

theorem writeM:∀ (n:Nat) (t:T),size t=n→okT t→size t≤1000000→WC t:=by
 intro n
 induction n using Nat.strongRecOn with
 | _ n ih =>
  intro t hn ht hs
  subst hn
  cases t with
  | cst m=>exact ur _ ht hs (.inl ⟨m,rfl⟩)
  | var m=>exact ur _ ht hs (.inr (.inl ⟨m,rfl⟩))
  | neg a=>exact ur _ ht hs (.inr (.inr ⟨a,rfl,ih _ (by simp[size]) a rfl ht (by simp[size] at hs;omega)⟩))
  | qu op m a=>exact writeQu op m a ht hs fun u hu hk=>ih _ hu u rfl hk (by omega)
  | bin op a b=>exact writeBin op a b ht hs (ih _ (by simp[size];omega) a rfl ht.2.2.1 (by simp[size] at hs;omega)) (ih _ (by simp[size];omega) b rfl ht.2.2.2 (by simp[size] at hs;omega))
  | ite c a b=>exact writeIte c a b ht hs (ih _ (by simp[size];omega) c rfl ht.1 (by simp[size] at hs;omega)) (ih _ (by simp[size];omega) a rfl ht.2.1 (by simp[size] at hs;omega)) (ih _ (by simp[size];omega) b rfl ht.2.2 (by simp[size] at hs;omega))
end
section
set_option maxRecDepth 20000
open Go Go.RowKit Go.SL

section
variable (fs:List (Int × Int)) (hl:fs.length≤9223372036854775807) (ad:Option Addr) (cap:Nat) (w0 w:World) (Hs:List HP) (hS:Sat w0 w Hs) {A:HP} (hA:A∈Hs) (hr:Rd A ad (Fs fs))
include hl hS hA hr
theorem treeNone (h:kE fs=none):Calls Tryz.prog 38 #[.slice ad fs.length cap] w fun e w'=>e=.returned .nilIface∧Sat w0 w' Hs:=by
 by_cases hb:fs.length≤65536
 ·refine (treeM fs hb ad cap w0 w Hs hS hA hr).mono fun e w' ⟨v,he,hp⟩=>?_
  rcases hp with ⟨rfl,_,hS'⟩|⟨t,H,ht,_⟩
  ·exact⟨he,hS'⟩
  ·rw[h] at ht;cases ht
 ·refine (treeBig fs hb hl ad cap w0 w Hs hS).mono fun e w' ⟨v,he,hp⟩=>?_
  rcases hp with ⟨rfl,_,hS'⟩|⟨t,H,ht,_⟩
  ·exact⟨he,hS'⟩
  ·rw[h] at ht;cases ht
theorem treeSome (t:T) (h:kE fs=some t):Calls Tryz.prog 38 #[.slice ad fs.length cap] w fun e w'=>∃ v H,e=.returned v∧InT H t v∧Sat w0 w' (fz H::Hs):=by
 refine (treeM fs (UP (UO h).1).1 ad cap w0 w Hs hS hA hr).mono fun e w' ⟨v,he,hp⟩=>?_
 rcases hp with ⟨rfl,hn,hS'⟩|⟨t',H,ht,hT,hS'⟩
 ·rw[h] at hn;cases hn
 ·rw[h] at ht;simp at ht;subst ht;exact⟨v,H,he,hT,hS'⟩
theorem printE (hm:YF w0∈Hs) (htb:Tab w0):Calls Tryz.prog 13 #[.slice ad fs.length cap] w fun e w'=>e=.returned (.tuple #[.string ⟨(KJ fs).1.toArray⟩,.int .i64 (KJ fs).2])∧Sat w0 w' Hs:=by
 obtain⟨O,hO⟩:∃ O,O=KJ fs:=⟨_,rfl⟩
 cases h:kE fs with
 | none =>
  have HO:=hid (show O=([],134) by rw[hO,KJ,h])
  have TN:=treeNone fs hl ad cap w0 w Hs hS hA hr h
  rw[← hO]
  clear h hO
  go_enter Tryz.func13,Tryz.ntmps13
  go_wp2_with (go_at_call 38;refine TN.mono ?_;clear hS TN;rintro e w ⟨rfl,hS⟩)
  go_ret2
  exact⟨by rw[HO.out];rfl,hS⟩
 | some t =>
  obtain⟨q1,q2,q3,q4,q5⟩:=UP (UO h).1
  have HO1:=hid (show (wr t true).length > 1048576→O=([],5) from fun hh=>by rw[hO,KJ,h];simp only[if_pos hh])
  have HO2:=hid (show ¬ (wr t true).length > 1048576→O=(wr t true,0) from fun hh=>by rw[hO,KJ,h];simp only[if_neg hh])
  have TS:=treeSome fs hl ad cap w0 w Hs hS hA hr t h
  have WM:=writeM _ t rfl q3 (by omega)
  obtain⟨w1,w2,w3⟩:=KK t q3 (by omega)
  rw[← hO]
  generalize hX:wr t true=X at *
  have HX:=hid hX
  clear h hO q4 hX
  by_cases hbig:X.length > 1048576
  ·go_enter Tryz.func13,Tryz.ntmps13
   go_wp2_with (first|((with_reducible apply yk hS);exact ya;exact z94;clear hS;intro NB w hS;(replace hS:=GS hS);(try simp only[qA]))|(go_at_call 38;refine TS.mono ?_;clear hS TS;rintro e w ⟨v,H,rfl,hT,hS⟩;obtain⟨K,b,rfl⟩:=hT.form)|(go_at_call 39;refine (WM NB [] _ H true _ _ _ hT hS (by((repeat (with_reducible exact ye));(try assumption))) (by((repeat (with_reducible apply yd));(try assumption))) htb (by simp;omega)).mono ?_;clear hS;rintro e w ⟨rfl,hS⟩;rw[HX.out,List.nil_append] at hS)|(go_at_call 40;refine (bldLen NB _ _ _ _ hS (by((repeat (with_reducible exact ye));(try assumption)))).mono ?_;clear hS;rintro e w ⟨rfl,hS⟩))
   go_ret2
   refine ⟨?_,hS.drop.drop⟩
   rw[HO1.out hbig]
   rfl
  ·go_enter Tryz.func13,Tryz.ntmps13
   go_wp2_with (first|((with_reducible apply yk hS);exact ya;exact z94;clear hS;intro NB w hS;(replace hS:=GS hS);(try simp only[qA]))|(go_at_call 38;refine TS.mono ?_;clear hS TS;rintro e w ⟨v,H,rfl,hT,hS⟩;obtain⟨K,b,rfl⟩:=hT.form)|(go_at_call 39;refine (WM NB [] _ H true _ _ _ hT hS (by((repeat (with_reducible exact ye));(try assumption))) (by((repeat (with_reducible apply yd));(try assumption))) htb (by simp;omega)).mono ?_;clear hS;rintro e w ⟨rfl,hS⟩;rw[HX.out,List.nil_append] at hS)|(go_at_call 40;refine (bldLen NB _ _ _ _ hS (by((repeat (with_reducible exact ye));(try assumption)))).mono ?_;clear hS;rintro e w ⟨rfl,hS⟩)|(go_at_call 41;refine (bldString NB _ _ _ _ _ hS (by repeat (with_reducible exact Rem.hd))).mono ?_;clear hS;rintro e w ⟨rfl,hS⟩))
   go_ret2
   refine ⟨?_,hS.drop⟩
   rw[HO2.out hbig]
   rfl
end
end
section
set_option maxRecDepth 20000
open Go Go.RowKit Go.SL

section
variable (fs:List (Int × Int)) (hl:fs.length≤8796093022200) (ad:Option Addr) (cap:Nat)
include hl
set_option maxHeartbeats 1000000 in
theorem sameT (ad2:Option Addr) (cap2:Nat) (w0 w:World) (Hs:List HP) (hS:Sat w0 w Hs) {A B:HP} (hA:A∈Hs) (hB:B∈Hs) (hr:Rd A ad (Fs fs)) (hr2:Rd B ad2 (Fs fs)) :
  Calls Tryz.prog 9 #[.slice ad fs.length cap,.slice ad2 fs.length cap2] w fun e w'=>e=.returned (.bool true)∧Sat w0 w' Hs:=by
 go_enter Tryz.func9,Tryz.ntmps9
 go_wp2
 go_loopw [5] (fun i wr=>∃ k:Nat,i=.int .i64 k∧k≤fs.length∧Sat w0 wr Hs) (fun i _=>fs.length - (intOf i).toNat)
 case atStart=>exact⟨0,rfl,by omega,hS⟩
 case round =>
  clear hS
  obtain⟨k,rfl,hk,hS⟩:=hrel
  by_cases hlt:k < fs.length
  ·obtain⟨⟨op,n⟩,hx⟩:∃ x,fs[k]?=some x:=⟨_,List.getElem?_eq_getElem hlt⟩
   have hfd:=Xw hx
   have hne:∃ aa,ad=some aa∧aa.spot=none:=Sat.rdAd2 hr hS hA (by rw[kJ];omega)
   have hne2:∃ aa,ad2=some aa∧aa.spot=none:=Sat.rdAd2 hr2 hS hB (by rw[kJ];omega)
   clear hx
   go_wp2_with ((first|((first|((with_reducible apply dP 0 hC hR);(simp only[qL];rfl);decide +kernel;exact iQ;exact ya)|((with_reducible apply dP 1 hC hR);(simp only[qL];rfl);decide +kernel;exact iQ;exact ya)|((with_reducible apply dP 4 hC hR);(simp only[qL];rfl);decide +kernel;exact iQ;exact ya)|((with_reducible apply dP 5 hC hR);(simp only[qL];rfl);decide +kernel;exact iQ;exact ya)|((with_reducible apply dP 8 hC hR);(simp only[qL];rfl);decide +kernel;exact iQ;exact ya));(intro w;first|(go_simp;done)|(go_simp;rw[yo (by omega) (by omega)])|(go_simp;with_reducible rfl)|(go_simp;rfl));(clear hR hC;intro hR hC))|((first|((with_reducible apply dP 2 hC hR);(simp only[qL];rfl);decide +kernel;exact iQ;exact ya)|((with_reducible apply dP 6 hC hR);(simp only[qL];rfl);decide +kernel;exact iQ;exact ya));(intro w;first|(with_reducible exact yu E23 rfl (by(exact yb rfl)) (by(exact yb rfl)) (by(omega)) (by(omega)) (by(assumption)) (by(simp only[qN];rfl)))|(go_simp;done)|(go_simp;rw[yo (by omega) (by omega)])|(go_simp;with_reducible rfl));(clear hR hC;intro hR hC))|((first|((with_reducible apply dR 3 hC hR);(simp only[qL];rfl);decide +kernel;exact iQ;exact ya)|((with_reducible apply dR 7 hC hR);(simp only[qL];rfl);decide +kernel;exact iQ;exact ya));(intro w hS;(apply yj rfl (by(exact yb rfl)));first|exact yc (by decide +kernel) (hS.cell (by(repeat (with_reducible apply yd))) rfl)|exact yc (by decide +kernel) ((hS.ownCell (by(repeat (with_reducible apply yd))) (by(rfl))).1)|exact yc (by decide +kernel) (Sat.rdCell2 (by assumption) hS (by((repeat (with_reducible apply yd)));try assumption) (by(rfl)))|exact yc (by decide +kernel) (hS.baseCell (by((repeat (with_reducible apply yd)));try assumption) (by assumption))|exact yc (by decide +kernel) (fzC (by assumption) hS (by((repeat (with_reducible apply yd)));try assumption))|exact yl hS (by assumption) (by((repeat (with_reducible apply yd)));try assumption) (by assumption) (by rfl) (by with_reducible exact sz44) (by decide +kernel) (by decide)|exact hS.loadWhole (by(repeat (with_reducible apply yd))) (by kernel_rfl) (by kernel_rfl));(clear hR hC;intro hR hC))|((with_reducible apply ym);decide +kernel;clear hR hC)|(refine yt 6 9 hS (by kernel_rfl) [] rfl ?_;clear hS;intro w hS hR hC));try simp only[qA])
   go_roundw
   case rel=>exact⟨k+1,by go_num,by omega,hS⟩
   case measure=>simp[intOf];omega
  ·go_wp2
   go_ret
   exact⟨rfl,hS⟩
end
end
end Go.Proofs.YteopodbkhgcpmaaGreatDoor
namespace Go.SL
section
open Go Go.RowKit
section
variable {P:Program} {ops:Array Oper} {Q:Exit→Act→World→Prop} {rest:List Oper} {a:Act} {w w0:World} {Hs:List HP} {e:TypeId}
theorem UE {o:Oper} {T:TypeId} {x0 x1 x2 x3 x4 x5:Operand} (ho:o.op=.buildSlice T 6 #[(0,x0),(1,x1),(2,x2),(3,x3),(4,x4),(5,x5)]) {bytes:Nat} (E:ElemTy P T e 2 bytes) {ρ:Operand→Value} {u0 v0 u1 v1 u2 v2 u3 v3 u4 v4 u5 v5:Value} (h0:ρ x0=.agg #[u0,v0]) (h1:ρ x1=.agg #[u1,v1]) (h2:ρ x2=.agg #[u2,v2]) (h3:ρ x3=.agg #[u3,v3]) (h4:ρ x4=.agg #[u4,v4]) (h5:ρ x5=.agg #[u5,v5]) :
  (execOp ρ o).run P w=.ok (.value (.slice (some ⟨w.heap.size,0,none⟩) 6 6)) (w.alloc (.cells #[u0,v0,u1,v1,u2,v2,u3,v3,u4,v4,u5,v5] e)):=by
 obtain⟨i,z,hi,hz,hs,hby,hzs⟩:=E.parts
 have c0:(Value.agg #[u0,v0]).cells=#[u0,v0]:=rfl
 have c1:(Value.agg #[u1,v1]).cells=#[u1,v1]:=rfl
 have c2:(Value.agg #[u2,v2]).cells=#[u2,v2]:=rfl
 have c3:(Value.agg #[u3,v3]).cells=#[u3,v3]:=rfl
 have c4:(Value.agg #[u4,v4]).cells=#[u4,v4]:=rfl
 have c5:(Value.agg #[u5,v5]).cells=#[u5,v5]:=rfl
 have hr:(Array.range 12).map (z.cells[· % z.cells.size]!)=#[z.cells[0]!,z.cells[1]!,z.cells[0]!,z.cells[1]!,z.cells[0]!,z.cells[1]!,z.cells[0]!,z.cells[1]!,z.cells[0]!,z.cells[1]!,z.cells[0]!,z.cells[1]!]:=by
  have h2:Array.range 12=#[0,1,2,3,4,5,6,7,8,9,10,11]:=by decide
  simp[h2,hzs]
 simp[execOp,ho,Instr.buildSlice,run_underlying E.ht,sizeOf,typeInfo,hi,hs,zeroValue,hz,newRow,newObj,Sem.run,h0,h1,h2,h3,h4,h5,Instr.fill,c0,c1,c2,c3,c4,c5,hr]
theorem XD {dst:Option Tmp} {T:TypeId} {x0 x1 x2 x3 x4 x5:Operand} {ty:TypeId} {pos:String} {after:Array Edge} {gd:Option (Nat × Bool)} {bytes:Nat} (hS:Sat w0 w Hs)
  (hw:Region.wanted ⟨dst,.buildSlice T 6 #[(0,x0),(1,x1),(2,x2),(3,x3),(4,x4),(5,x5)],ty,pos,after,gd⟩ (yielded ops a.tmps)=true) (E:ElemTy P T e 2 bytes) {u0 v0 u1 v1 u2 v2 u3 v3 u4 v4 u5 v5:Value} (h0:a.eval x0=.agg #[u0,v0]) (h1:a.eval x1=.agg #[u1,v1]) (h2:a.eval x2=.agg #[u2,v2]) (h3:a.eval x3=.agg #[u3,v3]) (h4:a.eval x4=.agg #[u4,v4]) (h5:a.eval x5=.agg #[u5,v5])
  (K:∀ b w',Sat w0 w' (own e 2 (some ⟨b,0,none⟩) 6 6 [u0,v0,u1,v1,u2,v2,u3,v3,u4,v4,u5,v5]::Hs)→wpList P ops Q rest (a.put dst (.slice (some ⟨b,0,none⟩) 6 6)) w'):wpList P ops Q (⟨dst,.buildSlice T 6 #[(0,x0),(1,x1),(2,x2),(3,x3),(4,x4),(5,x5)],ty,pos,after,gd⟩::rest) a w:=by
 refine yW hw (UE rfl E h0 h1 h2 h3 h4 h5) (K _ _ ?_)
 have hS1:Sat w0 (w.alloc (.cells #[u0,v0,u1,v1,u2,v2,u3,v3,u4,v4,u5,v5] e)) (blk w.heap.size e [u0,v0,u1,v1,u2,v2,u3,v3,u4,v4,u5,v5]::Hs):=by simpa [blk] using hS.alloc (.cells #[u0,v0,u1,v1,u2,v2,u3,v3,u4,v4,u5,v5] e)
 exact hS1.turn fun g h=>⟨rfl,.inr ⟨w.heap.size,[u0,v0,u1,v1,u2,v2,u3,v3,u4,v4,u5,v5],rfl,Nat.le_refl _,by unfold maxLen;omega,rfl,rfl,h⟩⟩
end
end
end Go.SL
namespace Go.Proofs.YteopodbkhgcpmaaGreatDoor
section
set_option maxRecDepth 20000
open Go Go.RowKit Go.SL Go.ClauseP Go.LexP

theorem Ge {text:List UInt8} (hl:text.length≤1048576) {a:Ans} (ha:∀ r,jn text r→gG r=a) (w0 w:World) (hSig:kY w0) (R:List HP) (hbm:YF w0∈R) (hS:Sat w0 w R) :
  Calls Tryz.prog 5 #[.string ⟨text.toArray⟩] w fun e w'=>fnQ text w0 R e w' a :=
 (Gd text hl w0 w hSig R hbm hS).mono fun e w' ⟨r,h1,h2⟩=>by rw[← ha r h1];exact h2
set_option maxHeartbeats 4000000 in
theorem aliveC (w0 w:World) (R:List HP) (hbm:YF w0∈R) (hSE:kY w0) (htb:Tab w0) (hS:Sat w0 w R):Calls Tryz.prog 4 #[] w fun e w'=>e=.returned (.bool true)∧Sat w0 w' R:=by
 have PK:=fun w1 R hm h=>Ge (text:=aliveB) (by decide) (fun r h=>XB h) w0 w1 hSE R hm h
 have SM:=fun ad cap ad2 cap2 w1 R h=>sameT aliveL (by decide) ad cap ad2 cap2 w0 w1 R h (A:=own 44 2 ad 6 cap (Fs aliveL)) (B:=own 44 2 ad2 6 cap2 (Fs aliveL))
 have PR:=fun ad cap w1 R hS hA hm=>printE aliveL (by decide) ad cap w0 w1 R hS (A:=own 44 2 ad 6 cap (Fs aliveL)) hA Rd.of_own hm htb
 simp only[xO,show aliveL.length=6 from rfl] at PR SM
 have hFs:Fs aliveL=[.int .i64 2,.int .i64 0,.int .i64 2,.int .i64 1,.int .i64 6,.int .i64 0,.int .i64 2,.int .i64 2,.int .i64 3,.int .i64 0,.int .i64 7,.int .i64 0]:=rfl
 have HF:=hid hFs
 clear hFs
 go_enter Tryz.func4,Tryz.ntmps4
 go_wp2_with ((first|(go_at_call 5;refine (show Calls Tryz.prog 5 #[.string ⟨aliveB.toArray⟩] _ _ from (PK _ _ hbm hS).mono ?_);clear hS;rintro e w ⟨ad,cap,rfl,hS⟩;simp only[show aliveL.length=6 from rfl] at hS ⊢)|((with_reducible apply yk hS);exact ya;exact z28;clear hS;intro NB w hS)|((with_reducible apply yi hS);exact ya;exact yb rfl;exact yb rfl;exact ye;rfl;(focus (simp;done));exact Upd.hd;rfl;exact sz28;rfl;clear hS;intro w hS;(try simp only[yp,qS] at hS))|((with_reducible apply yh hS);exact ya;exact yb rfl;(repeat (with_reducible first|exact ye|apply yd));rfl;decide +kernel)|(((with_reducible apply XD hS);exact ya;exact E23;exact yb rfl;exact yb rfl;exact yb rfl;exact yb rfl;exact yb rfl;exact yb rfl;clear hS;intro NB w hS;(try simp only[qA]));rw[← HF.out] at hS)|(go_at_call 9;refine (SM _ _ _ _ _ _ hS (by(repeat (with_reducible first|exact ye|apply yd))) (by(exact ye)) Rd.of_own Rd.of_own).mono ?_;clear hS;rintro e w ⟨rfl,hS⟩)|(go_at_call 13;refine (PR _ _ _ _ hS (by(exact ye)) (by((repeat (with_reducible apply yd));(try assumption)))).mono ?_;clear hS;rintro e w ⟨rfl,hS⟩));try simp only[qA])
 go_ret
 exact⟨rfl,hS.sb (by(repeat (with_reducible first|exact Sb.refl|apply Sb.skip)))⟩
end
section
open Go Go.RowKit Go.SL Go.LinesP

def yY (off:Nat):List UInt8→List (List UInt8 × Nat)
 | []=>[]
 | c::cs=>if yX c then (c::cs.takeWhile yX,off)::yY (off+1+(cs.takeWhile yX).length) (cs.drop (cs.takeWhile yX).length) else yY (off+1) cs
termination_by l=>l.length
decreasing_by
 ·simp only[List.length_drop,List.length_cons];omega
 ·simp
theorem YM (off:Nat):yY off []=[]:=by rw[yY]
theorem kI {off:Nat} {c:UInt8} {cs:List UInt8} (h:yX c=false):yY off (c::cs)=yY (off+1) cs:=by rw[yY,if_neg (by rw[h];simp)]
theorem kM {off:Nat} {c:UInt8} {cs:List UInt8} (h:yX c=true):yY off (c::cs)=(c::cs.takeWhile yX,off)::yY (off+1+(cs.takeWhile yX).length) (cs.drop (cs.takeWhile yX).length):=by rw[yY,if_pos h]
theorem jx {off k:Nat} {l:List UInt8} {c:UInt8} (hk:l[k]?=some c) (h:yX c=false):yY (off+k) (l.drop k)=yY (off+(k+1)) (l.drop (k+1)):=by
 have hl:=(List.getElem?_eq_some_iff.1 hk).1
 have hc:l[k]=c:=(List.getElem?_eq_some_iff.1 hk).2
 rw[List.drop_eq_getElem_cons hl,hc,kI h]
 rfl
theorem Jh {off k:Nat} {l:List UInt8} {c:UInt8} (hk:l[k]?=some c) (h:yX c=true) :
  k < Yw yX l k∧Yw yX l k≤l.length∧yY (off+k) (l.drop k)=((l.drop k).take (Yw yX l k - k),off+k)::yY (off+Yw yX l k) (l.drop (Yw yX l k)):=by
 have hl:=(List.getElem?_eq_some_iff.1 hk).1
 have hc:l[k]=c:=(List.getElem?_eq_some_iff.1 hk).2
 have hd:l.drop k=c::l.drop (k+1):=by rw[List.drop_eq_getElem_cons hl,hc]
 have hr:Yw yX l k=k+1+((l.drop (k+1)).takeWhile yX).length:=by
  rw[Yw,hd,List.takeWhile_cons,h];simp;omega
 have hle:((l.drop (k+1)).takeWhile yX).length≤(l.drop (k+1)).length:=(List.takeWhile_sublist _).length_le
 rw[List.length_drop] at hle
 refine ⟨by omega,by omega,?_⟩
 have htk:(l.drop k).take (Yw yX l k - k)=c::(l.drop (k+1)).takeWhile yX:=by
  rw[hd,hr,show k+1+((l.drop (k+1)).takeWhile yX).length - k=((l.drop (k+1)).takeWhile yX).length+1 by omega,List.take_succ_cons]
  congr 1
  exact(List.prefix_iff_eq_take.1 (List.takeWhile_prefix _)).symm
 rw[htk,hd,kM h,hr,List.drop_drop]
 congr 2
 ·omega
def YZ:List (List UInt8 × Nat)→Bool
 | (c::_,_)::_=>c == 99
 | _=>false
def jI (ws:List (List UInt8 × Nat)):Bool:=!ws.isEmpty && !YZ ws
def yU (off:Nat):List (List UInt8)→List (List (List UInt8 × Nat))
 | []=>[]
 | l::ls=>(if jI (yY off l) then [yY off l] else [])++yU (off+l.length) ls
def yS (ls:List (List UInt8)):Nat:=(ls.map List.length).sum
theorem ux:∀ (ls:List (List UInt8)) (l:List UInt8) (off:Nat),yU off (ls++[l])=yU off ls++(if jI (yY (off+yS ls) l) then [yY (off+yS ls) l] else [])
 | [],l,off=>by simp[yU,yS]
 | k::ls,l,off=>by
  have h:=ux ls l (off+k.length)
  simp only[List.cons_append,yU,h,yS,List.map_cons,List.sum_cons,List.append_assoc,Nat.add_assoc]
theorem Km:∀ s:List UInt8,(yJ s).flatten=s
 | []=>rfl
 | c::cs=>by
  have ih:=Km cs
  simp only[yJ]
  split
  ·simp[ih]
  ·cases h:yJ cs with
   | nil=>exact absurd h (jb cs)
   | cons l ls =>
    rw[h] at ih
    simp only[List.flatten_cons,List.cons_append] at ih ⊢
    rw[ih]
theorem GO {s x:List UInt8} (h:x∈yJ s):x.length≤s.length:=by
 have h1:=Km s
 have h2:x.length≤(yJ s).flatten.length:=(List.sublist_flatten_of_mem h).length_le
 rwa [h1] at h2
theorem un:∀ (n:Nat) (l:List UInt8) (off:Nat),l.length≤n→∀ w∈yY off l,w.1≠[]
 | 0,[],off,_,w,hw=>by rw[YM] at hw;cases hw
 | 0,c::cs,off,h,w,hw=>by simp at h
 | n+1,[],off,_,w,hw=>by rw[YM] at hw;cases hw
 | n+1,c::cs,off,h,w,hw=>by
  simp only[List.length_cons] at h
  cases hc:yX c with
  | false =>
   rw[kI hc] at hw
   exact un n cs _ (by omega) w hw
  | true =>
   rw[kM hc] at hw
   rcases List.mem_cons.1 hw with rfl|hw
   ·simp
   ·exact un n _ _ (by rw[List.length_drop];omega) w hw
theorem Jm:∀ s:List UInt8,(yJ s).length≤s.length+1
 | []=>by simp[yJ]
 | c::cs=>by
  have h:=Jm cs
  simp only[yJ]
  split
  ·simp;omega
  ·cases hl:yJ cs with
   | nil=>exact absurd hl (jb cs)
   | cons l ls=>rw[hl] at h;simp at h ⊢;omega
theorem Jl:∀ (ls:List (List UInt8)) (off:Nat),(yU off ls).length≤ls.length
 | [],off=>by simp[yU]
 | l::ls,off=>by
  have h:=Jl ls (off+l.length)
  simp only[yU,List.length_append,List.length_cons]
  split <;> simp <;> omega
theorem UN (ls:List (List UInt8)) (l:List UInt8):yS (ls++[l])=yS ls+l.length:=by simp[yS]
theorem Kk:∀ ls:List (List UInt8),yS ls=ls.flatten.length
 | []=>rfl
 | l::ls=>by
  have h:=Kk ls
  simp only[yS,List.map_cons,List.sum_cons,List.flatten_cons,List.length_append] at h ⊢
  omega
theorem UM {s x:List UInt8} {pre rest:List (List UInt8)} (h:yJ s=pre++x::rest):yS pre+x.length≤s.length:=by
 have h1:=Km s
 rw[h] at h1
 have h2:=congrArg List.length h1
 rw[List.flatten_append,List.length_append,List.flatten_cons,List.length_append,← Kk] at h2
 omega
end
end Go.Proofs.YteopodbkhgcpmaaGreatDoor
namespace Go.SL
section
open Go Go.RowKit
section
variable {n l:Nat} {P:Program} {ops:Array Oper} {Q:Exit→Act→World→Prop} {rest:List Oper} {a:Act} {w:World}
def Rest (l n:Nat) (P:Program) (ops:Array Oper) (Q:Exit→Act→World→Prop) (rest:List Oper):Exit→Act→World→Prop:=fun e a w=>e=.normal∧wpListIn (Fence.wide.inRound l) n P ops Q rest a w
theorem UB:¬ LetsOut (Rest l n P ops Q rest):=fun⟨_,_,h,_⟩=>by cases h
theorem kQ {o:Oper} (hd:∀ c,o.op≠.defer c) (h:wpList P ops (Rest l n P ops Q rest) [o] a w):wpListIn (Fence.wide.inRound l) n P ops Q (o::rest) a w:=by
 simp only[wpList] at h
 simp only[wpListIn]
 split
 ·rename_i hw
  rw[if_pos hw] at h
  have h2:=GY (l:=l) (n:=n) (K':=wpListIn (Fence.wide.inRound l) n P ops Q rest) hd UB (fun a w hk=>hk.2) h
  unfold Oper.wpIn at h2 ⊢
  refine ⟨h2.1,?_⟩
  have h3:=h2.2
  generalize (Oper.semAt (Fence.wide.inRound l).round a.eval o).run P w=r at *
  cases r with
  | ok x w' =>
   cases x <;> simp only[Oper.uponIn] at h3 ⊢ <;> first
    | exact h3
    | exact⟨h3.1,CallsIn.mono h3.2 (fun e w'' he=>by
      cases e with
      | returned v=>exact he
      | panicked c=>cases he.1
      | outgrown=>exact absurd he UB)⟩
    | exact⟨h3.1,RoundIn.mono h3.2 (fun e w'' he=>by
      cases e with
      | returned v=>exact he
      | panicked c=>cases he.1
      | outgrown=>exact absurd he UB)⟩
  | halt x w' =>
   cases x <;> simp only[Oper.uponIn] at h3 ⊢ <;> first
    | exact h3
    | (obtain⟨he,_⟩:=h3;cases he)
 ·rename_i hw
  rw[if_neg hw] at h
  exact⟨fun _ _=>trivial,h.2⟩
theorem Ga {F:Fence} {o:Oper} {K:Act→World→Prop} {Q Q':Exit→Act→World→Prop} (hq:∀ e a w,Q e a w→Q' e a w) (h:o.wpIn F n P a w K Q):o.wpIn F n P a w K Q':=by
 unfold Oper.wpIn at *
 refine ⟨h.1,?_⟩
 have h3:=h.2
 have hl:LetsOut Q→LetsOut Q':=fun⟨a,w,h⟩=>⟨a,w,hq _ _ _ h⟩
 generalize (o.semAt F.round a.eval).run P w=r at *
 cases r with
 | ok x w' =>
  cases x <;> simp only[Oper.uponIn] at h3 ⊢ <;> first
   | exact h3
   | exact⟨h3.1,CallsIn.mono h3.2 (fun e w'' he=>by
     cases e with
     | returned v=>exact he
     | panicked c=>exact hq _ _ _ he
     | outgrown=>exact hl he)⟩
   | exact⟨h3.1,RoundIn.mono h3.2 (fun e w'' he=>by
     cases e with
     | returned v=>exact he
     | panicked c=>exact hq _ _ _ he
     | outgrown=>exact hl he)⟩
 | halt x w' =>
  cases x <;> simp only[Oper.uponIn] at h3 ⊢ <;> first
   | exact h3
   | exact hq _ _ _ h3
theorem ut {F:Fence} {md:Region.Mode} {Q Q':Exit→Act→World→Prop} (hq:∀ e a w,Q e a w→Q' e a w):∀ (fuel:Nat) (listed:Array Bool) (a:Act) (w:World),wpAnyIn F n P md ops Q fuel listed a w→wpAnyIn F n P md ops Q' fuel listed a w
 | 0,listed,a,w,h=>⟨h.1,hq _ _ _ h.2⟩
 | fuel+1,listed,a,w,h=>by
  refine ⟨fun h0=>hq _ _ _ (h.1 h0),fun i hi=>?_⟩
  have h1:=wpOpIn_mono (fun a w=>ut hq fuel _ a w) (h.2 i hi)
  unfold wpOpIn at h1 ⊢
  cases ho:ops[i]? with
  | none=>rw[ho] at h1;exact h1
  | some o =>
   rw[ho] at h1
   simp only at h1 ⊢
   split
   ·rename_i hw
    rw[if_pos hw] at h1
    exact Ga hq h1
   ·rename_i hw
    rw[if_neg hw] at h1
    exact h1
theorem in_draw {id:Nat} {K:Act→World→Prop} (hm:P.follows .mixedOrders=true) (hd:∀ (i:Nat) o,ops[i]?=some o→∀ c,o.op≠.defer c) (hK:∀ a w,K a w→Q .normal a w)
  (h:(Code.region id ops true).wp P (fun e a w=>e=.normal∧K a w) a w→True) (h2:wpAny P .any ops (fun e a w=>e=.normal∧K a w) ops.size (Array.replicate ops.size false) a w.drew):(Code.region id ops true).wpIn (Fence.wide.inRound l) n P Q a w:=by
 refine wpIn_region_any hm ?_
 have h1:=xP (l:=l) (n:=n) (Q:=fun e a w=>e=.normal∧K a w) (fun⟨_,_,h,_⟩=>by cases h) hd _ _ _ _ h2
 exact ut (fun e a w hh=>by obtain⟨rfl,hk⟩:=hh;exact hK a w hk) _ _ _ _ h1
theorem XR {w0:World} {Hs:List HP} {K:Act→World→Prop} (id n':Nat) (hS:Sat w0 w Hs) (hm:P.follows .mixedOrders=true) (hd:∀ (i:Nat) o,ops[i]?=some o→∀ c,o.op≠.defer c) (js:List Nat) (hn:ops.size=n') (hK:∀ a w,K a w→Q .normal a w)
  (h:∀ w,Sat w0 w Hs→(brk js (Array.replicate n' false)=true∨Sat w0 w Hs)→Closed .any ops (Array.replicate n' false)→Yx P .any ops (fun e a w=>e=.normal∧K a w) (fun w=>Sat w0 w Hs) js n' (Array.replicate n' false) a w) :
  (Code.region id ops true).wpIn (Fence.wide.inRound l) n P Q a w:=by
 subst hn
 exact in_draw (K:=K) hm hd hK (fun _=>trivial) (Jt _ _ _ _ (h _ hS.drew (.inr hS.drew) (Closed.start _)))
def GU (ops:Array Oper):Bool:=ops.all fun o=>match o.op with|.defer _=>false|_=>true
theorem Xc (h:GU ops=true):∀ (i:Nat) o,ops[i]?=some o→∀ c,o.op≠.defer c:=by
 intro i o ho c hc
 have h1:=(Array.all_eq_true_iff_forall_mem.1 h) o (Array.mem_of_getElem? ho)
 rw[hc] at h1
 cases h1
theorem xU {w0:World} {Hs:List HP} (id n':Nat) (hS:Sat w0 w Hs) (hm:P.follows .mixedOrders=true) (hd:GU ops=true) (js:List Nat) (hn:ops.size=n')
  (h:∀ w,Sat w0 w Hs→(brk js (Array.replicate n' false)=true∨Sat w0 w Hs)→Closed .any ops (Array.replicate n' false)→Yx P .any ops (fun e a w=>e=.normal∧Q .normal a w) (fun w=>Sat w0 w Hs) js n' (Array.replicate n' false) a w) :
  (Code.region id ops true).wpIn (Fence.wide.inRound l) n P Q a w :=
 XR (K:=fun a w=>Q .normal a w) id n' hS hm (Xc hd) js hn (fun _ _ h=>h) h
end
end
end Go.SL
