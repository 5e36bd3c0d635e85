/-
  Every run of AdmitAsks answers true, whatever the config, the state and the number, and leaves what was there as it was: its walk, out of the contracts of the program and of the reference.
-/
import Derived.Test.YtohlaginanbclaaArgs
import Derived.Deep.RegionHeld3
namespace Go.Proofs.Ytohlaginanbclaa
open Go.ChangeShapes Go.WideShapes Go.ChangeAt Go.RowKit

set_option maxHeartbeats 4000000 in
theorem asks_walk (C N S K Q o l n : Int) (w : World) : Calls Try.prog 6 #[.agg #[.int .i64 C, .int .i64 N, .int .i64 S, .int .i64 K, .int .i64 Q], .agg #[.int .i64 o, .int .i64 l], .int .i64 n] w (Ret (.bool true) w) := by
  go_enter Try.func6, Try.ntmps6
  go_wp2_with fail
  refine (admit_pub _ _ _ _ _ _ _ _ _).mono ?_
  rintro e w1 ⟨rfl, hb1⟩
  have G1 := Lib.hid (args_call hb1 args_start)
  obtain ⟨p0, p1, p2, p3, p4, p5, p6, pz, pb⟩ := G1.out
  clear hb1
  go_wp2_with fail
  refine (refAdmit _ _ _ _ _ _ _ _ _).mono ?_
  rintro e w2 ⟨rfl, hb2⟩
  have hS : w2.cell? ⟨w.heap.size, 0, none⟩ = some (.int .i64 C) ∧ w2.cell? ⟨w.heap.size, 1, none⟩ = some (.int .i64 N) ∧ w2.cell? ⟨w.heap.size, 2, none⟩ = some (.int .i64 S) ∧ w2.cell? ⟨w.heap.size, 3, none⟩ = some (.int .i64 K) ∧ w2.cell? ⟨w.heap.size, 4, none⟩ = some (.int .i64 Q) ∧ w2.cell? ⟨w.heap.size + 1, 0, none⟩ = some (.int .i64 o) ∧ w2.cell? ⟨w.heap.size + 1, 1, none⟩ = some (.int .i64 l) ∧ w.heap.size + 1 < w2.heap.size ∧ Below w.heap.size w w2 := args_call hb2 G1.out
  clear p0 p1 p2 p3 p4 p5 p6 pz pb hb2 G1
  go_wp2_with fail
  go_region_held3 (fun w' => w'.cell? ⟨w.heap.size, 0, none⟩ = some (.int .i64 C) ∧ w'.cell? ⟨w.heap.size, 1, none⟩ = some (.int .i64 N) ∧ w'.cell? ⟨w.heap.size, 2, none⟩ = some (.int .i64 S) ∧ w'.cell? ⟨w.heap.size, 3, none⟩ = some (.int .i64 K) ∧ w'.cell? ⟨w.heap.size, 4, none⟩ = some (.int .i64 Q) ∧ w'.cell? ⟨w.heap.size + 1, 0, none⟩ = some (.int .i64 o) ∧ w'.cell? ⟨w.heap.size + 1, 1, none⟩ = some (.int .i64 l) ∧ w.heap.size + 1 < w'.heap.size ∧ Below w.heap.size w w') (first | exact args_drew hS | exact args_call (by with_reducible assumption) (by with_reducible assumption) | (trace "KEEP"; trace_state; fail))
    (first | (go_at_call 20; refine (check_pub _ _ _ _ _ _ _ _).mono ?_; rintro e wa ⟨rfl, hba⟩) | (go_at_call 21; refine (refChk _ _ _ _ _ _ _ _).mono ?_; rintro e wb ⟨rfl, hbb⟩) | (go_at_call 15; refine (after_pub _ _ _ _ _ _ _ _ _).mono ?_; rintro e wc ⟨rfl, hbc⟩) | (go_at_call 22; refine (refAfter _ _ _ _ _ _ _ _ _).mono ?_; rintro e wd ⟨rfl, hbd⟩) | (go_at_call 11; refine (awake_any _).mono ?_; rintro e we ⟨rfl, hbe⟩))
  go_wp2
  go_ret
  exact ⟨rfl, args_below (by with_reducible assumption)⟩

set_option maxRecDepth 100000 in
theorem admitAsks_lifted (os : Os) (started : os.Started) (H : Type) (enc : TypeId × Value → H) :
    ReturnsInHanded {} Try.checked os 6 .any (Rows.admitAsksSpec.pre6 enc Try.prog Try.f6 Rows.admitAsksRow.domain false) (Rows.admitAsksSpec.post enc Try.prog Try.f6 false true false false) := by
  refine returnsInHanded_of_change (C := Try.checked) own started (by kernel_rfl) Try.func6
    (ChangeSpec.witness6 (enc := enc) (C := Try.checked) false ⟨#[], #[.agg #[.int .i64 0, .int .i64 0, .int .i64 0, .int .i64 0, .int .i64 0], .agg #[.int .i64 0, .int .i64 0], .int .i64 0], []⟩ 8 (by kernel_rfl) (by kernel_rfl) (by kernel_rfl) (by kernel_rfl)) ?_
  intro W base args ds gs before hval0 hW hcnd _
  have hval : ∀ (j : Nat) t v, Try.f6.params[j]? = some t → args[j]? = some v → Value.okWide Try.prog W .any base t v := hval0
  have hW' := hW
  obtain ⟨p, q, hA0, hV, rfl, hfz, hnd⟩ := hW
  have hA : DataW.TrodAll enc Try.prog W 0 (fun _ => true) true Try.f6.params.toList args.toList ds p := hA0
  obtain ⟨rfl, rfl⟩ := trodVars_none hV
  obtain ⟨v0, v1, v2, d0, d1, d2, p0, p1, p2, rfl, rfl, t0, t1, t2, k0, k1, k2⟩ := law3 Try.params6 hA hval
  obtain ⟨C, N, S, K, Q, rfl⟩ := open_cfg k0 t0
  obtain ⟨o, l, rfl⟩ := open_st k1 t1
  obtain ⟨n, rfl⟩ := open_num k2 t2
  refine (asks_walk C N S K Q o l n W).mono fun e W' ⟨he, hb⟩ => ?_
  subst he
  exact ⟨_, rfl, law_post laidOut (by kernel_rfl) rfl (by kernel_rfl) Try.underlying4 hW' rfl rfl rfl hb⟩

theorem admitAsks_over : Rows.admitAsksRow.holds Try.pinned (OpenSpec.ofChange Rows.admitAsksSpec) :=
  OpenClaim.holds_of_wide 6 Try.f6 rfl rfl rfl rfl rfl rfl rfl ⟨rfl, rfl, rfl, rfl, rfl⟩ rfl rfl rfl rfl rfl (by kernel_rfl) Try.func6 (by kernel_rfl)
    (of_decide_eq_true (by kernel_rfl)) (by unfold Func.isWrapper; first | (rw [if_pos (by decide +kernel)]; kernel_rfl) | (rw [if_neg (by decide +kernel)]; exact ⟨rfl, rfl⟩))
    (fun os started H enc _ => admitAsks_lifted os started H enc)

theorem admitAsks_holds : Rows.AdmitAsksSaid := admitAsks_over
#print axioms admitAsks_holds
end Go.Proofs.Ytohlaginanbclaa
