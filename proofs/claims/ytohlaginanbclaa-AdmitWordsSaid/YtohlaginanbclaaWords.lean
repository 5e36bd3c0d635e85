/-
  Every run of AdmitWords answers true, whatever the config and the state, and leaves what was there as it was: its walk, out of the contracts of the program and of the reference.
-/
import Derived.Test.YtohlaginanbclaaArgs
import Derived.Test.YtohlaginanbclaaRefd
namespace Go.Proofs.Ytohlaginanbclaa
open Go.ChangeShapes Go.WideShapes Go.ChangeAt Go.RowKit

set_option maxHeartbeats 4000000 in
theorem words_walk (C N S K Q o l : Int) (w : World) : Calls Try.prog 8 #[.agg #[.int .i64 C, .int .i64 N, .int .i64 S, .int .i64 K, .int .i64 Q], .agg #[.int .i64 o, .int .i64 l]] w (Ret (.bool true) w) := by
  go_enter Try.func8, Try.ntmps8
  go_wp2_with fail
  refine (most_pub _ _ _ _ _ _ _ _).mono ?_
  rintro e w1 ⟨rfl, hb1⟩
  have G1 := Lib.hid (args_call hb1 args_start)
  obtain ⟨q0, q1, q2, q3, q4, q5, q6, qz, qb⟩ := G1.out
  clear hb1
  go_wp2_with fail
  refine (refMost _ _ _ _ _ _ _ _).mono ?_
  rintro e w2 ⟨rfl, hb2⟩
  have G2 := Lib.hid (args_call hb2 G1.out)
  obtain ⟨p0, p1, p2, p3, p4, p5, p6, pz, pb⟩ := G2.out
  clear hb2 q0 q1 q2 q3 q4 q5 q6 qz qb
  go_wp2_with fail
  refine (slack_pub _ _ _ _ _ _ _).mono ?_
  rintro e w3 ⟨rfl, hb3⟩
  have G3 := Lib.hid (args_call hb3 G2.out)
  obtain ⟨q0, q1, q2, q3, q4, q5, q6, qz, qb⟩ := G3.out
  clear hb3 p0 p1 p2 p3 p4 p5 p6 pz pb
  go_wp2_with fail
  refine (refSlack _ _ _ _ _ _ _).mono ?_
  rintro e w4 ⟨rfl, hb4⟩
  have G4 := Lib.hid (args_call hb4 G3.out)
  obtain ⟨p0, p1, p2, p3, p4, p5, p6, pz, pb⟩ := G4.out
  clear hb4 q0 q1 q2 q3 q4 q5 q6 qz qb
  go_wp2_with fail
  refine (cars_pub _ _ _ _ _ _ _).mono ?_
  rintro e w5 ⟨rfl, hb5⟩
  have G5 := Lib.hid (args_call hb5 G4.out)
  obtain ⟨q0, q1, q2, q3, q4, q5, q6, qz, qb⟩ := G5.out
  clear hb5 p0 p1 p2 p3 p4 p5 p6 pz pb
  go_wp2_with fail
  refine (refCars _ _ _ _ _ _ _).mono ?_
  rintro e w6 ⟨rfl, hb6⟩
  have G6 := Lib.hid (args_call hb6 G5.out)
  obtain ⟨p0, p1, p2, p3, p4, p5, p6, pz, pb⟩ := G6.out
  clear hb6 q0 q1 q2 q3 q4 q5 q6 qz qb
  go_wp2_with fail
  refine (awake_any _).mono ?_
  rintro e w7 ⟨rfl, hb7⟩
  have G7 := Lib.hid (args_call hb7 G6.out)
  obtain ⟨q0, q1, q2, q3, q4, q5, q6, qz, qb⟩ := G7.out
  clear hb7 p0 p1 p2 p3 p4 p5 p6 pz pb
  go_wp2
  go_ret
  exact ⟨rfl, qb⟩

set_option maxRecDepth 100000 in
theorem admitWords_lifted (os : Os) (started : os.Started) (H : Type) (enc : TypeId × Value → H) :
    ReturnsInHanded {} Try.checked os 8 .any (Rows.admitWordsSpec.pre6 enc Try.prog Try.f8 Rows.admitWordsRow.domain false) (Rows.admitWordsSpec.post enc Try.prog Try.f8 false true false false) := by
  refine returnsInHanded_of_change (C := Try.checked) own started (by kernel_rfl) Try.func8
    (ChangeSpec.witness6 (enc := enc) (C := Try.checked) false ⟨#[], #[.agg #[.int .i64 0, .int .i64 0, .int .i64 0, .int .i64 0, .int .i64 0], .agg #[.int .i64 0, .int .i64 0]], []⟩ 8 (by kernel_rfl) (by kernel_rfl) (by kernel_rfl) (by kernel_rfl)) ?_
  intro W base args ds gs before hval0 hW hcnd _
  have hval : ∀ (j : Nat) t v, Try.f8.params[j]? = some t → args[j]? = some v → Value.okWide Try.prog W .any base t v := hval0
  have hW' := hW
  obtain ⟨p, q, hA0, hV, rfl, hfz, hnd⟩ := hW
  have hA : DataW.TrodAll enc Try.prog W 0 (fun _ => true) true Try.f8.params.toList args.toList ds p := hA0
  obtain ⟨rfl, rfl⟩ := trodVars_none hV
  obtain ⟨v0, v1, d0, d1, p0, p1, rfl, rfl, t0, t1, k0, k1⟩ := law2 Try.params8 hA hval
  obtain ⟨C, N, S, K, Q, rfl⟩ := open_cfg k0 t0
  obtain ⟨o, l, rfl⟩ := open_st k1 t1
  refine (words_walk C N S K Q o l W).mono fun e W' ⟨he, hb⟩ => ?_
  subst he
  exact ⟨_, rfl, law_post laidOut (by kernel_rfl) rfl (by kernel_rfl) Try.underlying4 hW' rfl rfl rfl hb⟩

theorem admitWords_over : Rows.admitWordsRow.holds Try.pinned (OpenSpec.ofChange Rows.admitWordsSpec) :=
  OpenClaim.holds_of_wide 8 Try.f8 rfl rfl rfl rfl rfl rfl rfl ⟨rfl, rfl, rfl, rfl, rfl⟩ rfl rfl rfl rfl rfl (by kernel_rfl) Try.func8 (by kernel_rfl)
    (of_decide_eq_true (by kernel_rfl)) (by unfold Func.isWrapper; first | (rw [if_pos (by decide +kernel)]; kernel_rfl) | (rw [if_neg (by decide +kernel)]; exact ⟨rfl, rfl⟩))
    (fun os started H enc _ => admitWords_lifted os started H enc)

theorem admitWords_holds : Rows.AdmitWordsSaid := admitWords_over
#print axioms admitWords_holds
end Go.Proofs.Ytohlaginanbclaa
