/- strings.Builder: one byte written; strconv.FormatBool. -/
import Derived.Test.YthackanffcaejaaDoorBld
set_option linter.unusedVariables false
set_option linter.unusedSimpArgs false
set_option maxRecDepth 20000
namespace Go.Proofs.YthackanffcaejaaDoor
open Go Go.RowKit Go.SL

theorem bldByte (b : Nat) (l : List UInt8) (c : UInt8) (w0 w : World) (Hs Hs' : List HP) (hS : Sat w0 w Hs) (u : Upd Hs (bld b l) (bld b (l ++ [c])) Hs') (hl : l.length + 1 ≤ 140737488355328) :
    Calls Tryd.prog 76 #[.pointer (some ⟨b, 0, none⟩), .int .u8 c.toNat] w fun e w' => e = .returned .nilIface ∧ Sat w0 w' Hs' := by
  obtain ⟨R, r1, r2⟩ := u.rem
  obtain ⟨p, ad, cap, hp, hS⟩ := open_bld (Hs := Hs) (hS.front r1)
  go_enter Tryd.func76, Tryd.ntmps76
  go_wp2_with (first | (go_at_call 58; refine (copyCheck b p hp _ _ _ _ hS).mono ?_; clear hS; rintro e w ⟨rfl, hS⟩) | ((with_reducible apply (arm_load hS)); (first | with_reducible exact wanted_none | exact wanted_guard rfl rfl); (first | exact ev_tmp rfl | exact ev_const); (repeat (first | with_reducible exact mem_hd | with_reducible apply mem_tl)); rfl; decide +kernel; (try simp only [Act.put, List.setIfInBounds_toArray, List.set_cons_zero, List.set_cons_succ])) | ((with_reducible apply (arm_store hS)); (first | with_reducible exact wanted_none | exact wanted_guard rfl rfl); (first | exact ev_tmp rfl | exact ev_const); (first | exact ev_tmp rfl | exact ev_const); (repeat (first | with_reducible exact mem_hd | with_reducible apply mem_tl)); rfl; (first | (focus (simp; done)) | (simp; omega) | omega); (repeat (first | with_reducible exact Upd.hd | with_reducible apply Upd.tl)); rfl; decide +kernel; clear hS; intro w hS; (try simp only [List.set_cons_zero, List.set_cons_succ] at hS); (try simp only [Act.put, List.setIfInBounds_toArray, List.set_cons_zero, List.set_cons_succ])) | ((with_reducible apply (arm_build1 hS)); (first | with_reducible exact wanted_none | exact wanted_guard rfl rfl); (first | with_reducible exact E22 | with_reducible exact E37 | with_reducible exact E47 | with_reducible exact E60 | with_reducible exact E64 | with_reducible exact E68 | with_reducible exact E96 | with_reducible exact E121 | with_reducible exact E160 | with_reducible exact E186); (first | exact ev_tmp rfl | exact ev_const); (first | with_reducible exact cells_agg | exact cells_one rfl); rfl; decide; clear hS; intro NB w hS; (try simp only [Act.put, List.setIfInBounds_toArray, List.set_cons_zero, List.set_cons_succ])) | ((with_reducible apply (arm_appendB hS)); (first | with_reducible exact wanted_none | exact wanted_guard rfl rfl); (first | exact ev_tmp rfl | exact ev_const); (first | exact ev_tmp rfl | exact ev_const); (first | with_reducible exact E22 | with_reducible exact E37 | with_reducible exact E47 | with_reducible exact E60 | with_reducible exact E64 | with_reducible exact E68 | with_reducible exact E96 | with_reducible exact E121 | with_reducible exact E160 | with_reducible exact E186); (repeat (first | with_reducible exact Rem.hd | with_reducible apply Rem.tl)); (repeat (first | with_reducible exact Rem.hd | with_reducible apply Rem.tl)); rfl; rfl; (first | omega | (focus (simp; done)) | (simp; omega)); (first | omega | (focus (simp; done)) | (simp; omega)); clear hS; intro AD CAP w hS; (try simp only [Nat.zero_add, List.nil_append] at hS); (try simp only [Act.put, List.setIfInBounds_toArray, List.set_cons_zero, List.set_cons_succ])))
  go_ret
  have hb : Bs l ++ [Value.int .u8 c.toNat] = Bs (l ++ [c]) := by rw [Bs_append]; rfl
  rw [hb] at hS
  exact ⟨rfl, Sat.put (shut_bld (ad := AD) (cap := CAP) (.inr rfl) (by simp) (hS.front (Rem.tl Rem.hd))) r2⟩
theorem formatBool (b : Bool) (w0 w : World) (Hs : List HP) (hS : Sat w0 w Hs) :
    Calls Tryd.prog 75 #[.bool b] w fun e w' => e = .returned (.string ⟨(if b then [116, 114, 117, 101] else [102, 97, 108, 115, 101] : List UInt8).toArray⟩) ∧ Sat w0 w' Hs := by
  cases b
  all_goals
    go_enter Tryd.func75, Tryd.ntmps75
    go_wp2
    go_ret
    exact ⟨rfl, hS⟩
theorem bldWriteL (b : Nat) (l s : List UInt8) (w0 w : World) (R : List HP) (hS : Sat w0 w (bld b l :: R)) (hl : l.length + s.length ≤ 140737488355328) :
    Calls Tryd.prog 26 #[.pointer (some ⟨b, 0, none⟩), .string ⟨s.toArray⟩] w fun e w' => e = .returned (.tuple #[.int .i64 s.length, .nilIface]) ∧ Sat w0 w' (bld b (l ++ s) :: R) :=
  (bldWrite b l ⟨s.toArray⟩ w0 w (bld b l :: R) _ hS Upd.hd (by simpa [ByteArray.size] using hl)).mono fun e w' ⟨h1, h2⟩ => ⟨by simpa [ByteArray.size] using h1, by simpa using h2⟩
theorem bldByteL (b : Nat) (l : List UInt8) (c : UInt8) (n : Int) (hn : n = c.toNat) (w0 w : World) (R : List HP) (hS : Sat w0 w (bld b l :: R)) (hl : l.length + 1 ≤ 140737488355328) :
    Calls Tryd.prog 76 #[.pointer (some ⟨b, 0, none⟩), .int .u8 n] w fun e w' => e = .returned .nilIface ∧ Sat w0 w' (bld b (l ++ [c]) :: R) := by
  subst hn
  exact bldByte b l c w0 w _ _ hS Upd.hd hl
end Go.Proofs.YthackanffcaejaaDoor
