/-
  What a law holds of its two structs while it calls; contracts at any config, with the results given by name.
-/
import Derived.Test.YtohlaginanbclaaAwake
import Derived.Test.YtohlaginanbclaaFrame
import Derived.Test.YtohlaginanbclaaRefb
namespace Go.Proofs.Ytohlaginanbclaa
open Go.RowKit

abbrev Args (w0 : World) (C N S K Q o l : Int) (w : World) : Prop := w.cell? ⟨w0.heap.size, 0, none⟩ = some (.int .i64 C) ∧ w.cell? ⟨w0.heap.size, 1, none⟩ = some (.int .i64 N) ∧ w.cell? ⟨w0.heap.size, 2, none⟩ = some (.int .i64 S) ∧ w.cell? ⟨w0.heap.size, 3, none⟩ = some (.int .i64 K) ∧ w.cell? ⟨w0.heap.size, 4, none⟩ = some (.int .i64 Q) ∧ w.cell? ⟨w0.heap.size + 1, 0, none⟩ = some (.int .i64 o) ∧ w.cell? ⟨w0.heap.size + 1, 1, none⟩ = some (.int .i64 l) ∧ w0.heap.size + 1 < w.heap.size ∧ Below w0.heap.size w0 w
theorem args_call {w0 W w1 : World} {C N S K Q o l : Int} (hb : Below W.heap.size W w1) (h : Args w0 C N S K Q o l W) : Args w0 C N S K Q o l w1 := by
  obtain ⟨h0, h1, h2, h3, h4, h5, h6, hz, hl⟩ := h
  exact ⟨(hb.cell (p := ⟨w0.heap.size, 0, none⟩) (Nat.lt_of_succ_lt hz)).trans h0, (hb.cell (p := ⟨w0.heap.size, 1, none⟩) (Nat.lt_of_succ_lt hz)).trans h1, (hb.cell (p := ⟨w0.heap.size, 2, none⟩) (Nat.lt_of_succ_lt hz)).trans h2, (hb.cell (p := ⟨w0.heap.size, 3, none⟩) (Nat.lt_of_succ_lt hz)).trans h3, (hb.cell (p := ⟨w0.heap.size, 4, none⟩) (Nat.lt_of_succ_lt hz)).trans h4, (hb.cell (p := ⟨w0.heap.size + 1, 0, none⟩) hz).trans h5, (hb.cell (p := ⟨w0.heap.size + 1, 1, none⟩) hz).trans h6, Nat.lt_of_lt_of_le hz hb.size, below_call hb hl (Nat.le_refl _)⟩
theorem args_drew {w0 W : World} {C N S K Q o l : Int} (h : Args w0 C N S K Q o l W) : Args w0 C N S K Q o l W.drew := by
  obtain ⟨h0, h1, h2, h3, h4, h5, h6, hz, hl⟩ := h
  exact ⟨h0, h1, h2, h3, h4, h5, h6, hz, hl.drew⟩
theorem args_start {w0 : World} {C N S K Q o l : Int} : Args w0 C N S K Q o l ((w0.alloc (.cells #[.int .i64 C, .int .i64 N, .int .i64 S, .int .i64 K, .int .i64 Q] 23)).alloc (.cells #[.int .i64 o, .int .i64 l] 25)) := by
  refine ⟨?_, ?_, ?_, ?_, ?_, ?_, ?_, ?_, below_new (below_new (Below.refl _ _) (Nat.le_refl _) _) (Nat.le_refl _) _⟩ <;> go_simp
theorem args_below {w0 W : World} {C N S K Q o l : Int} (h : Args w0 C N S K Q o l W) : Below w0.heap.size w0 W := h.2.2.2.2.2.2.2.2

theorem adm_at {C N S K Q o l n : Int} (x k r : Int) (w : World) (h : admE C N S K Q o l n = x) (hk : kOf x = k) (hr : rOf x = r) :
    Calls Try.prog 14 #[.agg #[.int .i64 C, .int .i64 N, .int .i64 S, .int .i64 K, .int .i64 Q], .int .i64 o, .int .i64 l, .int .i64 n] w (Ret (.tuple #[.int .i64 k, .int .i64 r]) w) := by
  subst h; subst hk; subst hr; exact admit_pub C N S K Q o l n w
theorem after_at {C N S K Q o l n x : Int} (w : World) (h : admE C N S K Q o l n = x) : Calls Try.prog 15 #[.agg #[.int .i64 C, .int .i64 N, .int .i64 S, .int .i64 K, .int .i64 Q], .int .i64 o, .int .i64 l, .int .i64 n] w (Ret (.int .i64 x) w) := by
  subst h; exact after_pub C N S K Q o l n w
theorem most_at {C N S K Q o l m x : Int} (w : World) (h : mostN C N S K Q o l = m) (hx : chkE C N S K Q o l = x) : Calls Try.prog 16 #[.agg #[.int .i64 C, .int .i64 N, .int .i64 S, .int .i64 K, .int .i64 Q], .int .i64 o, .int .i64 l] w (Ret (.tuple #[.int .i64 m, .int .i64 x]) w) := by
  subst h; subst hx; exact most_pub C N S K Q o l w
theorem slack_at {C N S K Q o m x : Int} (w : World) (h : slackN C N S K Q o = m) (hx : occE C N S K Q o = x) : Calls Try.prog 18 #[.agg #[.int .i64 C, .int .i64 N, .int .i64 S, .int .i64 K, .int .i64 Q], .int .i64 o] w (Ret (.tuple #[.int .i64 m, .int .i64 x]) w) := by
  subst h; subst hx; exact slack_pub C N S K Q o w
theorem cars_at {C N S K Q o m x : Int} (w : World) (h : carsN C N S K Q o = m) (hx : occE C N S K Q o = x) : Calls Try.prog 25 #[.agg #[.int .i64 C, .int .i64 N, .int .i64 S, .int .i64 K, .int .i64 Q], .int .i64 o] w (Ret (.tuple #[.int .i64 m, .int .i64 x]) w) := by
  subst h; subst hx; exact cars_pub C N S K Q o w
theorem check_at {C N S K Q o l x : Int} (w : World) (hx : chkE C N S K Q o l = x) : Calls Try.prog 20 #[.agg #[.int .i64 C, .int .i64 N, .int .i64 S, .int .i64 K, .int .i64 Q], .int .i64 o, .int .i64 l] w (Ret (.int .i64 x) w) := by
  subst hx; exact check_pub C N S K Q o l w
end Go.Proofs.Ytohlaginanbclaa
