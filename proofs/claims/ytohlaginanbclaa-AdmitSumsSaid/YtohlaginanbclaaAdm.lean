/-
  Walks of the layer admit: admit of a state, and the public functions over it.
-/
import Derived.Test.YtohlaginanbclaaChk
import Derived.Test.YtohlaginanbclaaPlain2
namespace Go.Proofs.Ytohlaginanbclaa
open Go.RowKit

def pick4 (p q r s : Bool) (x y z u : Int) : Int := bif p then x else bif q then y else bif r then z else bif s then u else 0
theorem first4' (b : Nat) (p q r s : Bool) (x y z u : Int) (w : World) (h0 : w.cell? ⟨b, 0, none⟩ = some (.bool p)) (h1 : w.cell? ⟨b, 1, none⟩ = some (.int .i64 x)) (h2 : w.cell? ⟨b, 2, none⟩ = some (.bool q)) (h3 : w.cell? ⟨b, 3, none⟩ = some (.int .i64 y)) (h4 : w.cell? ⟨b, 4, none⟩ = some (.bool r)) (h5 : w.cell? ⟨b, 5, none⟩ = some (.int .i64 z)) (h6 : w.cell? ⟨b, 6, none⟩ = some (.bool s)) (h7 : w.cell? ⟨b, 7, none⟩ = some (.int .i64 u)) (hb : b < w.heap.size) :
    Calls Try.prog 39 #[.slice (some ⟨b, 0, none⟩) 4 4] w (Ret (.int .i64 (pick4 p q r s x y z u)) w) := first4 b p q r s x y z u w h0 h1 h2 h3 h4 h5 h6 h7 hb

theorem sz_lt {w w1 : World} {o : Obj} (h : Below (w.alloc o).heap.size (w.alloc o) w1) : w.heap.size < w1.heap.size := by
  have := h.size
  simp at this
  omega
theorem pick4_adm {C N S K Q o l n : Int} (hc : cfgB C N S K Q = true) (hs : stB C N S o l = true) :
    pick4 false (decide (n < 1)) (decide (larg C S < n)) (lackB C N o l n) 0 7 11 5 = admE C N S K Q o l n := by
  unfold pick4 admE lackB
  rw [hc, hs]
  by_cases h1 : n < 1
  · simp [h1]
  · by_cases h2 : larg C S < n
    · simp [h1, h2]
    · by_cases h3 : l < n
      · simp [h1, h2, h3]
      · by_cases h4 : slk C N o < n
        · simp [h1, h2, h4]
        · simp [h1, h2, h3, h4]

theorem stCheck_yes (C N S K Q o l : Int) (w : World) (hc : cfgB C N S K Q = true) (hs : stB C N S o l = true) : Calls Try.prog 29 #[.agg #[.int .i64 C, .int .i64 N, .int .i64 S, .int .i64 K, .int .i64 Q, .int .i64 o, .int .i64 l]] w (Ret (.int .i64 0) w) := by
  rw [← chkE_ok hc hs]; exact stCheck C N S K Q o l w
theorem stCheck_no (C N S K Q o l : Int) (w : World) (h : (cfgB C N S K Q && stB C N S o l) = false) : Calls Try.prog 29 #[.agg #[.int .i64 C, .int .i64 N, .int .i64 S, .int .i64 K, .int .i64 Q, .int .i64 o, .int .i64 l]] w (Ret (.int .i64 7) w) := by
  rw [← chkE_no h]; exact stCheck C N S K Q o l w

set_option maxHeartbeats 1000000 in
theorem stAdmit_yes (C N S K Q o l n : Int) (w : World) (hc : cfgB C N S K Q = true) (hs : stB C N S o l = true) :
    Calls Try.prog 30 #[.agg #[.int .i64 C, .int .i64 N, .int .i64 S, .int .i64 K, .int .i64 Q, .int .i64 o, .int .i64 l], .int .i64 n] w (Ret (.int .i64 (admE C N S K Q o l n)) w) := by
  rw [← pick4_adm hc hs]
  have HC := Lib.hid hc
  have HS := Lib.hid hs
  have hco := cfgB_true.1 hc
  have hoo : OccOk C N S o := (stB_true.1 hs).1
  clear hc hs
  by_cases hl : l < n
  all_goals
    go_enter Try.func30, Try.ntmps30
    go_wp2_with (first | (go_at_call 29; refine (stCheck_yes _ _ _ _ _ _ _ _ HC.out HS.out).mono ?_; rintro e w1 ⟨rfl, hb1⟩; obtain ⟨hc1, hf1⟩ := bcell hb1)  | (go_at_call 31; refine (largest_ok _ _ _ _ _ _ hco).mono ?_; rintro e w2 ⟨rfl, hb2⟩; obtain ⟨hc2, hf2⟩ := bcell hb2; have hz2 := sz_lt hb1)  | (go_at_call 32; refine (stSlack_any _ _ _ _ _ _ _ _ hco hoo).mono ?_; rintro e w3 ⟨rfl, hb3⟩)  | (go_at_call 39; refine (first4' _ false (decide (n < 1)) (decide (larg C S < n)) (lackB C N o l n) 0 7 11 5 _ (by simp) (by simp) (by simp) (by simp) (by simp) (by simp) (by unfold lackB; simp [hl]) (by simp) (by simp)).mono ?_; rintro e w4 ⟨rfl, hb4⟩))
    go_ret
    exact ⟨rfl, by (repeat (first | exact Below.refl _ _ | (refine below_new ?_ (Nat.le_refl _) _) | (refine below_drewN ?_ _) | (refine Below.drew ?_) | (refine below_call (by assumption) ?_ (Nat.le_refl _)) | (refine below_set ?_ (by simp) _)))⟩
end Go.Proofs.Ytohlaginanbclaa
