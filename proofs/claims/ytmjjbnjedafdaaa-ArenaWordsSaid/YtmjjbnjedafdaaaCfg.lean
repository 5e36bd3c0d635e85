/-
  Walks of the layer config (Check, Words) and of its reference.
-/
import Derived.Test.YtmjjbnjedafdaaaProg
import Derived.Test.YtmjjbnjedafdaaaBase
import Derived.WalkSpells
import Derived.WalkLawsBesides
import Derived.Laws.EntriesVeiled
namespace Go.Proofs.Ytmjjbnjedafdaaa
open Go.RowKit

def CfgOk (C N S K Q : Int) : Prop := (8 ≤ C ∧ C ≤ 64) ∧ (7 ≤ N ∧ N ≤ 24) ∧ (4 ≤ S ∧ S ≤ 64) ∧ (1 ≤ K ∧ K ≤ 8) ∧ (2 ≤ Q ∧ Q ≤ 16)
def cfgB (C N S K Q : Int) : Bool := decide ((8 ≤ C ∧ C ≤ 64) ∧ (7 ≤ N ∧ N ≤ 24) ∧ (4 ≤ S ∧ S ≤ 64) ∧ (1 ≤ K ∧ K ≤ 8) ∧ (2 ≤ Q ∧ Q ≤ 16))
theorem cfgB_true {C N S K Q : Int} : cfgB C N S K Q = true ↔ CfgOk C N S K Q := by unfold cfgB CfgOk; exact decide_eq_true_iff
theorem cfgB_false {C N S K Q : Int} : cfgB C N S K Q = false ↔ ¬ CfgOk C N S K Q := by rw [← cfgB_true]; simp
/-- The numbers of cars and their words, multiplied: bounds for omega. -/
theorem prod_bounds {C N : Int} (h1 : 8 ≤ C) (h2 : C ≤ 64) (h3 : 7 ≤ N) (h4 : N ≤ 24) : 56 ≤ N * C ∧ N * C ≤ 1536 := by
  constructor
  · have := Int.mul_le_mul h3 h1 (by omega) (by omega); omega
  · have := Int.mul_le_mul h4 h2 (by omega) (by omega); omega
def cfgE (C N S K Q : Int) : Int := if cfgB C N S K Q then 0 else 7

def limArr : Array Value := #[
  .string ⟨#[99, 97, 114, 115]⟩, .int .i64 7, .int .i64 24, .func (.func 54) #[] #[],
  .string ⟨#[111, 102]⟩, .int .i64 8, .int .i64 64, .func (.func 55) #[] #[],
  .string ⟨#[110, 117, 114, 115, 101, 114, 121]⟩, .int .i64 4, .int .i64 64, .func (.func 56) #[] #[],
  .string ⟨#[114, 101, 103, 105, 115, 116, 101, 114, 115]⟩, .int .i64 1, .int .i64 8, .func (.func 57) #[] #[],
  .string ⟨#[112, 111, 112, 117, 108, 97, 114]⟩, .int .i64 2, .int .i64 16, .func (.func 58) #[] #[]]

set_option maxHeartbeats 400000 in
theorem limits_any (w : World) : Calls Try.prog 53 #[] w fun e w' => e = .returned (.slice (some ⟨w.heap.size, 0, none⟩) 5 5) ∧ w.alloc (.cells limArr 85) = w' := by
  go_enter Try.func53, Try.ntmps53
  go_wp2
  go_ret
  exact ⟨rfl, rfl⟩

set_option maxHeartbeats 1000000 in
theorem cfgCheck_ok (C N S K Q : Int) (w : World) (hc : CfgOk C N S K Q) :
    Calls Try.prog 51 #[.agg #[.int .i64 C, .int .i64 N, .int .i64 S, .int .i64 K, .int .i64 Q]] w (Ret (.int .i64 0) w) := by
  obtain ⟨⟨_, _⟩, ⟨_, _⟩, ⟨_, _⟩, ⟨_, _⟩, _, _⟩ := hc
  go_enter Try.func51, Try.ntmps51
  go_wp2_with (first | (go_at_call 53; refine (limits_any _).mono ?_; rintro e w' ⟨rfl, rfl⟩))
  unfold limArr
  refine wp_loop_rounds 6 ?_
  iterate 6 (rw [rounds_succ]; go_wp2)
  go_ret
  refine ⟨rfl, ?_⟩
  repeat (first | exact Below.refl _ _ | (refine below_new ?_ (Nat.le_refl _) _))

set_option maxHeartbeats 2000000 in
theorem cfgCheck_no (C N S K Q : Int) (w : World) (hc : ¬ CfgOk C N S K Q) :
    Calls Try.prog 51 #[.agg #[.int .i64 C, .int .i64 N, .int .i64 S, .int .i64 K, .int .i64 Q]] w (Ret (.int .i64 7) w) := by
  unfold CfgOk at hc
  have HC : Hid (¬ _) := hc
  clear hc
  go_enter Try.func51, Try.ntmps51
  go_wp2_with (first | (go_at_call 53; refine (limits_any _).mono ?_; rintro e w' ⟨rfl, rfl⟩))
  unfold limArr
  refine wp_loop_rounds 6 ?_
  iterate 5
    rw [rounds_succ]
    go_wp2
    any_goals (go_ret; refine ⟨rfl, ?_⟩; repeat (first | exact Below.refl _ _ | (refine below_new ?_ (Nat.le_refl _) _)))
  exact absurd ⟨⟨by omega, by omega⟩, ⟨by omega, by omega⟩, ⟨by omega, by omega⟩, ⟨by omega, by omega⟩, by omega, by omega⟩ HC.out

set_option maxHeartbeats 400000 in
theorem words_ok (C N S K Q : Int) (w : World) (hc : CfgOk C N S K Q) :
    Calls Try.prog 41 #[.agg #[.int .i64 C, .int .i64 N, .int .i64 S, .int .i64 K, .int .i64 Q]] w (Ret (.tuple #[.int .i64 (1 + S + N * C), .int .i64 0]) w) := by
  obtain ⟨⟨c1, c2⟩, ⟨n1, n2⟩, ⟨_, _⟩, ⟨_, _⟩, _, _⟩ := id hc
  obtain ⟨b1, b2⟩ := prod_bounds c1 c2 n1 n2
  have hmf : ∀ (fn : Fn) (first cap : Array Value) (w : World), (Instr.makeFunc fn first cap).run Try.prog w = .ok (.func fn first cap) w := fun _ _ _ _ => rfl
  go_enter Try.func41, Try.ntmps41
  go_wp2_with (first | (go_at_call 48; go_in) | (go_at_call 51; refine (cfgCheck_ok _ _ _ _ _ _ hc).mono ?_; rintro e w1 ⟨rfl, hb1⟩; obtain ⟨hc1, hf1⟩ := bcell hb1) | (go_at_call 49; go_in))
  go_ret2
  exact ⟨rfl, by (repeat (first | exact Below.refl _ _ | (refine below_new ?_ (Nat.le_refl _) _) | (refine below_drewN ?_ _) | (refine Below.drew ?_) | (refine below_call (by assumption) ?_ (Nat.le_refl _)) | (refine below_set ?_ (by simp) _)))⟩
set_option maxHeartbeats 400000 in
theorem words_no (C N S K Q : Int) (w : World) (hc : ¬ CfgOk C N S K Q) :
    Calls Try.prog 41 #[.agg #[.int .i64 C, .int .i64 N, .int .i64 S, .int .i64 K, .int .i64 Q]] w (Ret (.tuple #[.int .i64 0, .int .i64 7]) w) := by
  have HC := Lib.hid hc
  clear hc
  have hmf : ∀ (fn : Fn) (first cap : Array Value) (w : World), (Instr.makeFunc fn first cap).run Try.prog w = .ok (.func fn first cap) w := fun _ _ _ _ => rfl
  go_enter Try.func41, Try.ntmps41
  go_wp2_with (first | (go_at_call 48; go_in) | (go_at_call 51; refine (cfgCheck_no _ _ _ _ _ _ HC.out).mono ?_; rintro e w1 ⟨rfl, hb1⟩; obtain ⟨hc1, hf1⟩ := bcell hb1))
  go_ret2
  exact ⟨rfl, by (repeat (first | exact Below.refl _ _ | (refine below_new ?_ (Nat.le_refl _) _) | (refine below_drewN ?_ _) | (refine Below.drew ?_) | (refine below_call (by assumption) ?_ (Nat.le_refl _)) | (refine below_set ?_ (by simp) _)))⟩

theorem refIn_any (n a b : Int) (w : World) : Calls Try.prog 52 #[.int .i64 n, .int .i64 a, .int .i64 b] w fun e w' => e = .returned (.bool (decide (a ≤ n) && decide (n ≤ b))) ∧ w = w' := by
  go_enter Try.func52, Try.ntmps52
  go_wp2
  all_goals
    go_ret
    exact ⟨rb (by first | (simp [*]; done) | (simp [*]; omega)), rfl⟩

set_option maxHeartbeats 400000 in
theorem refCheck_any (C N S K Q : Int) (w : World) :
    Calls Try.prog 50 #[.agg #[.int .i64 C, .int .i64 N, .int .i64 S, .int .i64 K, .int .i64 Q]] w (Ret (.int .i64 (cfgE C N S K Q)) w) := by
  go_enter Try.func50, Try.ntmps50
  go_wp2_with (go_at_call 52; refine (refIn_any _ _ _ _).mono ?_; rintro e w1 ⟨rfl, rfl⟩)
  all_goals
    go_ret
    refine ⟨ri ?_, by (repeat (first | exact Below.refl _ _ | (refine below_new ?_ (Nat.le_refl _) _) | (refine below_drewN ?_ _) | (refine Below.drew ?_) | (refine below_call (by assumption) ?_ (Nat.le_refl _)) | (refine below_set ?_ (by simp) _)))⟩
    unfold cfgE cfgB
    first | rw [if_pos (decide_eq_true (by omega))] | rw [if_neg (by rw [decide_eq_true_iff]; omega)]

theorem cfgE_ok {C N S K Q : Int} (h : cfgB C N S K Q = true) : cfgE C N S K Q = 0 := by unfold cfgE; rw [if_pos h]
theorem cfgE_no {C N S K Q : Int} (h : cfgB C N S K Q = false) : cfgE C N S K Q = 7 := by unfold cfgE; rw [if_neg (by rw [h]; decide)]
theorem refCheck_ok (C N S K Q : Int) (w : World) (h : cfgB C N S K Q = true) :
    Calls Try.prog 50 #[.agg #[.int .i64 C, .int .i64 N, .int .i64 S, .int .i64 K, .int .i64 Q]] w (Ret (.int .i64 0) w) := by rw [← cfgE_ok h]; exact refCheck_any C N S K Q w
theorem refCheck_no (C N S K Q : Int) (w : World) (h : cfgB C N S K Q = false) :
    Calls Try.prog 50 #[.agg #[.int .i64 C, .int .i64 N, .int .i64 S, .int .i64 K, .int .i64 Q]] w (Ret (.int .i64 7) w) := by rw [← cfgE_no h]; exact refCheck_any C N S K Q w

set_option maxHeartbeats 400000 in
theorem rwords_ok (C N S K Q : Int) (w : World) (h : cfgB C N S K Q = true) :
    Calls Try.prog 42 #[.agg #[.int .i64 C, .int .i64 N, .int .i64 S, .int .i64 K, .int .i64 Q]] w (Ret (.tuple #[.int .i64 (1 + S + N * C), .int .i64 0]) w) := by
  obtain ⟨⟨c1, c2⟩, ⟨n1, n2⟩, ⟨_, _⟩, ⟨_, _⟩, _, _⟩ := cfgB_true.1 h
  obtain ⟨b1, b2⟩ := prod_bounds c1 c2 n1 n2
  have HB := Lib.hid h
  clear h
  go_enter Try.func42, Try.ntmps42
  go_wp2_with (go_at_call 50; refine (refCheck_ok _ _ _ _ _ _ HB.out).mono ?_; rintro e w1 ⟨rfl, hb1⟩; obtain ⟨hc1, hf1⟩ := bcell hb1)
  go_ret2
  exact ⟨rfl, by (repeat (first | exact Below.refl _ _ | (refine below_new ?_ (Nat.le_refl _) _) | (refine below_drewN ?_ _) | (refine Below.drew ?_) | (refine below_call (by assumption) ?_ (Nat.le_refl _)) | (refine below_set ?_ (by simp) _)))⟩
set_option maxHeartbeats 400000 in
theorem rwords_no (C N S K Q : Int) (w : World) (h : cfgB C N S K Q = false) :
    Calls Try.prog 42 #[.agg #[.int .i64 C, .int .i64 N, .int .i64 S, .int .i64 K, .int .i64 Q]] w (Ret (.tuple #[.int .i64 0, .int .i64 7]) w) := by
  have HB := Lib.hid h
  clear h
  go_enter Try.func42, Try.ntmps42
  go_wp2_with (go_at_call 50; refine (refCheck_no _ _ _ _ _ _ HB.out).mono ?_; rintro e w1 ⟨rfl, hb1⟩; obtain ⟨hc1, hf1⟩ := bcell hb1)
  go_ret2
  exact ⟨rfl, by (repeat (first | exact Below.refl _ _ | (refine below_new ?_ (Nat.le_refl _) _) | (refine below_drewN ?_ _) | (refine Below.drew ?_) | (refine below_call (by assumption) ?_ (Nat.le_refl _)) | (refine below_set ?_ (by simp) _)))⟩
end Go.Proofs.Ytmjjbnjedafdaaa
