/-
  Walks of the layer admit: first, heavy, wrong, check.
-/
import Derived.Test.YtohlaginanbclaaCfg
import Derived.Deep.RegionHeld3
namespace Go.Proofs.Ytohlaginanbclaa
open Go.RowKit

set_option maxHeartbeats 400000 in
theorem first2 (b : Nat) (p q : Bool) (x y : Int) (w : World) (h0 : w.cell? ⟨b, 0, none⟩ = some (.bool p)) (h1 : w.cell? ⟨b, 1, none⟩ = some (.int .i64 x)) (h2 : w.cell? ⟨b, 2, none⟩ = some (.bool q)) (h3 : w.cell? ⟨b, 3, none⟩ = some (.int .i64 y)) (hb : b < w.heap.size) :
    Calls Try.prog 39 #[.slice (some ⟨b, 0, none⟩) 2 2] w (Ret (.int .i64 (bif p then x else bif q then y else 0)) w) := by
  cases p
  · cases q
    · go_enter Try.func39, Try.ntmps39
      go_wp2
      refine wp_loop_rounds 3 ?_
      iterate 3 (rw [rounds_succ]; go_wp2)
      go_ret
      exact ⟨rfl, by (repeat (first | exact Below.refl _ _ | (refine below_new ?_ (Nat.le_refl _) _) | (refine below_drewN ?_ _) | (refine Below.drew ?_) | (refine below_call (by assumption) ?_ (Nat.le_refl _)) | (refine below_set ?_ (by simp) _)))⟩
    · go_enter Try.func39, Try.ntmps39
      go_wp2
      refine wp_loop_rounds 3 ?_
      iterate 2 (rw [rounds_succ]; go_wp2)
      go_ret
      exact ⟨rfl, by (repeat (first | exact Below.refl _ _ | (refine below_new ?_ (Nat.le_refl _) _) | (refine below_drewN ?_ _) | (refine Below.drew ?_) | (refine below_call (by assumption) ?_ (Nat.le_refl _)) | (refine below_set ?_ (by simp) _)))⟩
  · go_enter Try.func39, Try.ntmps39
    go_wp2
    refine wp_loop_rounds 3 ?_
    rw [rounds_succ]; go_wp2
    go_ret
    exact ⟨rfl, by (repeat (first | exact Below.refl _ _ | (refine below_new ?_ (Nat.le_refl _) _) | (refine below_drewN ?_ _) | (refine Below.drew ?_) | (refine below_call (by assumption) ?_ (Nat.le_refl _)) | (refine below_set ?_ (by simp) _)))⟩

set_option maxHeartbeats 400000 in
theorem first1 (b : Nat) (p : Bool) (x : Int) (w : World) (h0 : w.cell? ⟨b, 0, none⟩ = some (.bool p)) (h1 : w.cell? ⟨b, 1, none⟩ = some (.int .i64 x)) :
    Calls Try.prog 39 #[.slice (some ⟨b, 0, none⟩) 1 1] w (Ret (.int .i64 (bif p then x else 0)) w) := by
  cases p
  · go_enter Try.func39, Try.ntmps39
    go_wp2
    refine wp_loop_rounds 2 ?_
    iterate 2 (rw [rounds_succ]; go_wp2)
    go_ret
    exact ⟨rfl, by (repeat (first | exact Below.refl _ _ | (refine below_new ?_ (Nat.le_refl _) _) | (refine below_drewN ?_ _) | (refine Below.drew ?_) | (refine below_call (by assumption) ?_ (Nat.le_refl _)) | (refine below_set ?_ (by simp) _)))⟩
  · go_enter Try.func39, Try.ntmps39
    go_wp2
    refine wp_loop_rounds 2 ?_
    rw [rounds_succ]; go_wp2
    go_ret
    exact ⟨rfl, by (repeat (first | exact Below.refl _ _ | (refine below_new ?_ (Nat.le_refl _) _) | (refine below_drewN ?_ _) | (refine Below.drew ?_) | (refine below_call (by assumption) ?_ (Nat.le_refl _)) | (refine below_set ?_ (by simp) _)))⟩

set_option maxHeartbeats 400000 in
theorem heavy_any (C N S K Q o l : Int) (w : World) (hc : CfgOk C N S K Q) :
    Calls Try.prog 40 #[.agg #[.int .i64 C, .int .i64 N, .int .i64 S, .int .i64 K, .int .i64 Q, .int .i64 o, .int .i64 l]] w (Ret (.bool (!occB C N S o)) w) := by
  obtain ⟨⟨c1, c2⟩, ⟨n1, n2⟩, ⟨_, _⟩, ⟨_, _⟩, _, _⟩ := hc
  obtain ⟨b1, b2⟩ := prod_bounds c1 c2 n1 n2
  go_enter Try.func40, Try.ntmps40
  go_wp2
  all_goals
    go_ret
    refine ⟨rb ?_, by (repeat (first | exact Below.refl _ _ | (refine below_new ?_ (Nat.le_refl _) _) | (refine below_drewN ?_ _) | (refine Below.drew ?_) | (refine below_call (by assumption) ?_ (Nat.le_refl _)) | (refine below_set ?_ (by simp) _)))⟩
    unfold occB
    rw [Bool.eq_iff_iff]
    simp
    try omega

def wrongB (S o l : Int) : Bool := decide (l < 0) || decide (S < l) || decide (wrap64 (o + l) < S)
set_option maxHeartbeats 400000 in
theorem wrong_any (C N S K Q o l : Int) (w : World) :
    Calls Try.prog 41 #[.agg #[.int .i64 C, .int .i64 N, .int .i64 S, .int .i64 K, .int .i64 Q, .int .i64 o, .int .i64 l]] w (Ret (.bool (wrongB S o l)) w) := by
  go_enter Try.func41, Try.ntmps41
  go_wp2
  all_goals
    go_ret
    refine ⟨rb ?_, by (repeat (first | exact Below.refl _ _ | (refine below_new ?_ (Nat.le_refl _) _) | (refine below_drewN ?_ _) | (refine Below.drew ?_) | (refine below_call (by assumption) ?_ (Nat.le_refl _)) | (refine below_set ?_ (by simp) _)))⟩
    unfold wrongB
    simp [*]
set_option maxHeartbeats 400000 in
theorem first4 (b : Nat) (p q r s : Bool) (x y z u : Int) (w : World) (h0 : w.cell? ⟨b, 0, none⟩ = some (.bool p)) (h1 : w.cell? ⟨b, 1, none⟩ = some (.int .i64 x)) (h2 : w.cell? ⟨b, 2, none⟩ = some (.bool q)) (h3 : w.cell? ⟨b, 3, none⟩ = some (.int .i64 y)) (h4 : w.cell? ⟨b, 4, none⟩ = some (.bool r)) (h5 : w.cell? ⟨b, 5, none⟩ = some (.int .i64 z)) (h6 : w.cell? ⟨b, 6, none⟩ = some (.bool s)) (h7 : w.cell? ⟨b, 7, none⟩ = some (.int .i64 u)) (hb : b < w.heap.size) :
    Calls Try.prog 39 #[.slice (some ⟨b, 0, none⟩) 4 4] w (Ret (.int .i64 (bif p then x else bif q then y else bif r then z else bif s then u else 0)) w) := by
  have n0 : b < w.heap.size + 1 := by omega
  have n1 : b < w.heap.size + 1 + 1 := by omega
  have n2 : b < w.heap.size + 1 + 1 + 1 := by omega
  have m0 : b ≠ w.heap.size := by omega
  have m1 : b ≠ w.heap.size + 1 := by omega
  have m2 : b ≠ w.heap.size + 1 + 1 := by omega
  have m3 : b ≠ w.heap.size + 1 + 1 + 1 := by omega
  cases p
  · cases q
    · cases r
      · cases s
        · go_enter Try.func39, Try.ntmps39
          go_wp2
          refine wp_loop_rounds 5 ?_
          iterate 5 (rw [rounds_succ]; go_wp2)
          go_ret
          exact ⟨rfl, by (repeat (first | exact Below.refl _ _ | (refine below_new ?_ (Nat.le_refl _) _) | (refine below_drewN ?_ _) | (refine Below.drew ?_) | (refine below_call (by assumption) ?_ (Nat.le_refl _)) | (refine below_set ?_ (by simp) _)))⟩
        · go_enter Try.func39, Try.ntmps39
          go_wp2
          refine wp_loop_rounds 5 ?_
          iterate 4 (rw [rounds_succ]; go_wp2)
          go_ret
          exact ⟨rfl, by (repeat (first | exact Below.refl _ _ | (refine below_new ?_ (Nat.le_refl _) _) | (refine below_drewN ?_ _) | (refine Below.drew ?_) | (refine below_call (by assumption) ?_ (Nat.le_refl _)) | (refine below_set ?_ (by simp) _)))⟩
      · go_enter Try.func39, Try.ntmps39
        go_wp2
        refine wp_loop_rounds 5 ?_
        iterate 3 (rw [rounds_succ]; go_wp2)
        go_ret
        exact ⟨rfl, by (repeat (first | exact Below.refl _ _ | (refine below_new ?_ (Nat.le_refl _) _) | (refine below_drewN ?_ _) | (refine Below.drew ?_) | (refine below_call (by assumption) ?_ (Nat.le_refl _)) | (refine below_set ?_ (by simp) _)))⟩
    · go_enter Try.func39, Try.ntmps39
      go_wp2
      refine wp_loop_rounds 5 ?_
      iterate 2 (rw [rounds_succ]; go_wp2)
      go_ret
      exact ⟨rfl, by (repeat (first | exact Below.refl _ _ | (refine below_new ?_ (Nat.le_refl _) _) | (refine below_drewN ?_ _) | (refine Below.drew ?_) | (refine below_call (by assumption) ?_ (Nat.le_refl _)) | (refine below_set ?_ (by simp) _)))⟩
  · go_enter Try.func39, Try.ntmps39
    go_wp2
    refine wp_loop_rounds 5 ?_
    rw [rounds_succ]; go_wp2
    go_ret
    exact ⟨rfl, by (repeat (first | exact Below.refl _ _ | (refine below_new ?_ (Nat.le_refl _) _) | (refine below_drewN ?_ _) | (refine Below.drew ?_) | (refine below_call (by assumption) ?_ (Nat.le_refl _)) | (refine below_set ?_ (by simp) _)))⟩

set_option maxHeartbeats 400000 in
theorem stSlack_any (C N S K Q o l : Int) (w : World) (hc : CfgOk C N S K Q) (ho : OccOk C N S o) :
    Calls Try.prog 32 #[.agg #[.int .i64 C, .int .i64 N, .int .i64 S, .int .i64 K, .int .i64 Q, .int .i64 o, .int .i64 l]] w (Ret (.int .i64 (slk C N o)) w) := by
  obtain ⟨⟨c1, c2⟩, ⟨n1, n2⟩, ⟨_, _⟩, ⟨_, _⟩, _, _⟩ := id hc
  obtain ⟨b1, b2, B3⟩ := budget_bounds c1 c2 n1 n2
  obtain ⟨p1, p2⟩ := prod_bounds c1 c2 n1 n2
  obtain ⟨o1, o2⟩ := ho
  have b4 : 8 ≤ bud C N := b1
  have b5 : bud C N ≤ 1152 := b2
  clear B3
  go_enter Try.func32, Try.ntmps32
  go_wp2_with (first | (go_at_call 44; refine (budget_ok _ _ _ _ _ _ hc).mono ?_; rintro e w1 ⟨rfl, hb1⟩; obtain ⟨hc1, hf1⟩ := bcell hb1))
  all_goals
    go_ret
    exact ⟨ri (by unfold slk; omega), by (repeat (first | exact Below.refl _ _ | (refine below_new ?_ (Nat.le_refl _) _) | (refine below_drewN ?_ _) | (refine Below.drew ?_) | (refine below_call (by assumption) ?_ (Nat.le_refl _)) | (refine below_set ?_ (by simp) _)))⟩
end Go.Proofs.Ytohlaginanbclaa
