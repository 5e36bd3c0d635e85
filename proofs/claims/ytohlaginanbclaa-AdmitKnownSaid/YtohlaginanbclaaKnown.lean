/-
  Every run of AdmitKnown answers true, and leaves what was there as it was: its walk, call by call, out of the contracts.
-/
import Derived.Test.YtohlaginanbclaaAwake
import Derived.Test.YtohlaginanbclaaFrame
namespace Go.Proofs.Ytohlaginanbclaa
open Go.ChangeShapes Go.WideShapes Go.ChangeAt Go.RowKit

theorem run_three (b : Nat) (w : World) (h0 : w.cell? ⟨b, 0, none⟩ = some (.int .i64 1)) (h1 : w.cell? ⟨b, 1, none⟩ = some (.int .i64 2)) (h2 : w.cell? ⟨b, 2, none⟩ = some (.int .i64 1)) (hb : b < w.heap.size) :
    Calls Try.prog 12 #[.agg #[.int .i64 8, .int .i64 7, .int .i64 4, .int .i64 1, .int .i64 2], .int .i64 0, .int .i64 4, .slice (some ⟨b, 0, none⟩) 3 3] w (Ret (.tuple #[.int .i64 3, .int .i64 0]) w) := by
  have h := run_good 8 7 4 1 2 0 4 [1, 2, 1] w b 0 3 (fun _ => hb) (fun i hi => by
    have hi' : i = 0 ∨ i = 1 ∨ i = 2 := by simp at hi; omega
    rcases hi' with rfl | rfl | rfl
    · exact h0
    · exact h1
    · exact h2) (by decide) (by decide) (by decide)
  exact h

set_option maxHeartbeats 4000000 in
theorem known_walk (w : World) : Calls Try.prog 9 #[] w (Ret (.bool true) w) := by
  go_enter Try.func9, Try.ntmps9
  go_wp2_with fail
  refine (small_any _).mono ?_
  rintro e w1 ⟨rfl, hb1⟩
  have hB1 := Lib.hid (below_new hb1 (Nat.le_refl _) (.cells #[.int .i64 8, .int .i64 7, .int .i64 4, .int .i64 1, .int .i64 2] 23))
  clear hb1
  go_wp2_with fail
  have F1 : Five w1.heap.size 8 7 4 1 2 (w1.alloc (.cells #[.int .i64 8, .int .i64 7, .int .i64 4, .int .i64 1, .int .i64 2] 23)) := ⟨⟨by simp, by simp, by simp, by simp, by simp⟩, by simp⟩
  have G1 := Lib.hid F1
  clear F1
  refine (adm_lit 0 3 4 7 _ 0 7 (by decide) (by decide) rfl rfl).mono ?_
  rintro e w2 ⟨rfl, hb2⟩
  have G2 := Lib.hid (five_call hb2 G1.out)
  obtain ⟨⟨p0, p1, p2, p3, p4⟩, pz⟩ := G2.out
  have hB2 := Lib.hid (below_call hb2 hB1.out (Nat.le_refl _))
  clear hb2
  go_wp2_with fail
  refine (adm_lit 1 3 3 0 _ 1 0 (by decide) (by decide) rfl rfl).mono ?_
  rintro e w3 ⟨rfl, hb3⟩
  have G3 := Lib.hid (five_call hb3 G2.out)
  obtain ⟨⟨q0, q1, q2, q3, q4⟩, qz⟩ := G3.out
  have hB3 := Lib.hid (below_call hb3 hB2.out (Nat.le_refl _))
  clear hb3 p0 p1 p2 p3 p4 pz
  go_wp2_with fail
  refine (adm_lit 1 3 4 5 _ 2 0 (by decide) (by decide) rfl rfl).mono ?_
  rintro e w4 ⟨rfl, hb4⟩
  have G4 := Lib.hid (five_call hb4 G3.out)
  obtain ⟨⟨p0, p1, p2, p3, p4⟩, pz⟩ := G4.out
  have hB4 := Lib.hid (below_call hb4 hB3.out (Nat.le_refl _))
  clear hb4 q0 q1 q2 q3 q4 qz
  go_wp2_with fail
  refine (adm_lit 0 4 5 11 _ 0 11 (by decide) (by decide) rfl rfl).mono ?_
  rintro e w5 ⟨rfl, hb5⟩
  have G5 := Lib.hid (five_call hb5 G4.out)
  obtain ⟨⟨q0, q1, q2, q3, q4⟩, qz⟩ := G5.out
  have hB5 := Lib.hid (below_call hb5 hB4.out (Nat.le_refl _))
  clear hb5 p0 p1 p2 p3 p4 pz
  go_wp2_with fail
  refine (most_lit 4 4 0 0 _ (by decide) (by decide)).mono ?_
  rintro e w6 ⟨rfl, hb6⟩
  have G6 := Lib.hid (five_call hb6 G5.out)
  obtain ⟨⟨p0, p1, p2, p3, p4⟩, pz⟩ := G6.out
  have hB6 := Lib.hid (below_call hb6 hB5.out (Nat.le_refl _))
  clear hb6 q0 q1 q2 q3 q4 qz
  go_wp2_with fail
  refine (slack_lit 9 0 0 _ (by decide) (by decide)).mono ?_
  rintro e w7 ⟨rfl, hb7⟩
  have G7 := Lib.hid (five_call hb7 G6.out)
  obtain ⟨⟨q0, q1, q2, q3, q4⟩, qz⟩ := G7.out
  have hB7 := Lib.hid (below_call hb7 hB6.out (Nat.le_refl _))
  clear hb7 p0 p1 p2 p3 p4 pz
  go_wp2_with fail
  refine (run_three _ _ (by simp) (by simp) (by simp) (by simp)).mono ?_
  rintro e w8 ⟨rfl, hb8⟩
  have G8 := Lib.hid (five_call hb8 (five_new _ G7.out))
  obtain ⟨⟨p0, p1, p2, p3, p4⟩, pz⟩ := G8.out
  have hB8 := Lib.hid (below_call hb8 (below_new hB7.out (Nat.le_refl _) _) (Nat.le_refl _))
  clear hb8 q0 q1 q2 q3 q4 qz
  go_wp2_with fail
  refine (cars_lit 4 6 0 _ (by decide) (by decide)).mono ?_
  rintro e w9 ⟨rfl, hb9⟩
  have G9 := Lib.hid (five_call hb9 G8.out)
  obtain ⟨⟨q0, q1, q2, q3, q4⟩, qz⟩ := G9.out
  have hB9 := Lib.hid (below_call hb9 hB8.out (Nat.le_refl _))
  clear hb9 p0 p1 p2 p3 p4 pz
  go_wp2_with fail
  refine (cars_lit 0 5 0 _ (by decide) (by decide)).mono ?_
  rintro e w10 ⟨rfl, hb10⟩
  have G10 := Lib.hid (five_call hb10 G9.out)
  obtain ⟨⟨p0, p1, p2, p3, p4⟩, pz⟩ := G10.out
  have hB10 := Lib.hid (below_call hb10 hB9.out (Nat.le_refl _))
  clear hb10 q0 q1 q2 q3 q4 qz
  go_wp2_with fail
  refine (after_lit 3 4 1 0 _ (by decide)).mono ?_
  rintro e w11 ⟨rfl, hb11⟩
  have G11 := Lib.hid (five_call hb11 G10.out)
  obtain ⟨⟨q0, q1, q2, q3, q4⟩, qz⟩ := G11.out
  have hB11 := Lib.hid (below_call hb11 hB10.out (Nat.le_refl _))
  clear hb11 p0 p1 p2 p3 p4 pz
  go_wp2_with fail
  refine (awake_any _).mono ?_
  rintro e w12 ⟨rfl, hb12⟩
  have G12 := Lib.hid (five_call hb12 G11.out)
  obtain ⟨⟨p0, p1, p2, p3, p4⟩, pz⟩ := G12.out
  have hB12 := Lib.hid (below_call hb12 hB11.out (Nat.le_refl _))
  clear hb12 q0 q1 q2 q3 q4 qz
  go_wp2
  go_ret
  exact ⟨rfl, hB12.out⟩

set_option maxRecDepth 100000 in
theorem known_lifted (os : Os) (started : os.Started) (H : Type) (enc : TypeId × Value → H) :
    ReturnsInHanded {} Try.checked os 9 .any (Rows.admitKnownSpec.pre6 enc Try.prog Try.f9 Rows.admitKnownRow.domain false) (Rows.admitKnownSpec.post enc Try.prog Try.f9 false true false false) := by
  refine returnsInHanded_of_change (C := Try.checked) own started (by kernel_rfl) Try.func9
    (ChangeSpec.witness6 (enc := enc) (C := Try.checked) false ⟨#[], #[], []⟩ 8 (by kernel_rfl) (by kernel_rfl) (by kernel_rfl) (by kernel_rfl)) ?_
  intro W base args ds gs before hval0 hW hcnd _
  have hW' := hW
  obtain ⟨p, q, hA0, hV, rfl, hfz, hnd⟩ := hW
  have hA : DataW.TrodAll enc Try.prog W 0 (fun _ => true) true Try.f9.params.toList args.toList ds p := hA0
  rw [Try.params9] at hA
  obtain ⟨rfl, rfl, rfl⟩ := trodAll_none hA
  obtain ⟨rfl, rfl⟩ := trodVars_none hV
  refine (known_walk W).mono fun e W' ⟨he, hb⟩ => ?_
  subst he
  exact ⟨_, rfl, law_post laidOut (by kernel_rfl) rfl (by kernel_rfl) Try.underlying4 hW' rfl rfl rfl hb⟩

theorem known_over : Rows.admitKnownRow.holds Try.pinned (OpenSpec.ofChange Rows.admitKnownSpec) :=
  OpenClaim.holds_of_wide 9 Try.f9 rfl rfl rfl rfl rfl rfl rfl ⟨rfl, rfl, rfl, rfl, rfl⟩ rfl rfl rfl rfl rfl (by kernel_rfl) Try.func9 (by kernel_rfl)
    (of_decide_eq_true (by kernel_rfl)) (by unfold Func.isWrapper; first | (rw [if_pos (by decide +kernel)]; kernel_rfl) | (rw [if_neg (by decide +kernel)]; exact ⟨rfl, rfl⟩))
    (fun os started H enc _ => known_lifted os started H enc)

theorem known_holds : Rows.AdmitKnownSaid := known_over
#print axioms known_holds
end Go.Proofs.Ytohlaginanbclaa
