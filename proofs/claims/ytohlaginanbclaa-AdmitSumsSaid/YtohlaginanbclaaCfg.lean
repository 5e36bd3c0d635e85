/-
  Walks of the layer config (Check, Largest, Budget) and of its reference.
-/
import Derived.Test.YtohlaginanbclaaProg
import Derived.Test.YtohlaginanbclaaBase
import Derived.Test.YtohlaginanbclaaPlain
import Derived.WalkSpells
import Derived.WalkLawsBesides
import Derived.Laws.EntriesVeiled
namespace Go.Proofs.Ytohlaginanbclaa
open Go.RowKit

def limArr : Array Value := #[
  .string ⟨#[99, 97, 114, 115]⟩, .int .i64 7, .int .i64 24, .func (.func 48) #[] #[],
  .string ⟨#[111, 102]⟩, .int .i64 8, .int .i64 64, .func (.func 49) #[] #[],
  .string ⟨#[110, 117, 114, 115, 101, 114, 121]⟩, .int .i64 4, .int .i64 64, .func (.func 50) #[] #[],
  .string ⟨#[114, 101, 103, 105, 115, 116, 101, 114, 115]⟩, .int .i64 1, .int .i64 8, .func (.func 51) #[] #[],
  .string ⟨#[112, 111, 112, 117, 108, 97, 114]⟩, .int .i64 2, .int .i64 16, .func (.func 52) #[] #[]]

set_option maxHeartbeats 400000 in
theorem limits_any (w : World) : Calls Try.prog 46 #[] w fun e w' => e = .returned (.slice (some ⟨w.heap.size, 0, none⟩) 5 5) ∧ w.alloc (.cells limArr 60) = w' := by
  go_enter Try.func46, Try.ntmps46
  go_wp2
  go_ret
  exact ⟨rfl, rfl⟩

set_option maxHeartbeats 1000000 in
theorem cfgCheck_ok (C N S K Q : Int) (w : World) (hc : CfgOk C N S K Q) :
    Calls Try.prog 38 #[.agg #[.int .i64 C, .int .i64 N, .int .i64 S, .int .i64 K, .int .i64 Q]] w (Ret (.int .i64 0) w) := by
  obtain ⟨⟨_, _⟩, ⟨_, _⟩, ⟨_, _⟩, ⟨_, _⟩, _, _⟩ := hc
  go_enter Try.func38, Try.ntmps38
  go_wp2_with (first | (go_at_call 46; refine (limits_any _).mono ?_; rintro e w' ⟨rfl, rfl⟩))
  unfold limArr
  refine wp_loop_rounds 6 ?_
  iterate 6 (rw [rounds_succ]; go_wp2)
  go_ret
  refine ⟨rfl, ?_⟩
  repeat (first | exact Below.refl _ _ | (refine below_new ?_ (Nat.le_refl _) _))

set_option maxHeartbeats 2000000 in
theorem cfgCheck_no (C N S K Q : Int) (w : World) (hc : ¬ CfgOk C N S K Q) :
    Calls Try.prog 38 #[.agg #[.int .i64 C, .int .i64 N, .int .i64 S, .int .i64 K, .int .i64 Q]] w (Ret (.int .i64 7) w) := by
  unfold CfgOk at hc
  have HC : Hid (¬ _) := hc
  clear hc
  go_enter Try.func38, Try.ntmps38
  go_wp2_with (first | (go_at_call 46; refine (limits_any _).mono ?_; rintro e w' ⟨rfl, rfl⟩))
  unfold limArr
  refine wp_loop_rounds 6 ?_
  iterate 5
    rw [rounds_succ]
    go_wp2
    any_goals (go_ret; refine ⟨rfl, ?_⟩; repeat (first | exact Below.refl _ _ | (refine below_new ?_ (Nat.le_refl _) _)))
  exact absurd ⟨⟨by omega, by omega⟩, ⟨by omega, by omega⟩, ⟨by omega, by omega⟩, ⟨by omega, by omega⟩, by omega, by omega⟩ HC.out

set_option maxHeartbeats 400000 in
theorem largest_ok (C N S K Q : Int) (w : World) (hc : CfgOk C N S K Q) :
    Calls Try.prog 31 #[.agg #[.int .i64 C, .int .i64 N, .int .i64 S, .int .i64 K, .int .i64 Q]] w (Ret (.tuple #[.int .i64 (larg C S), .int .i64 0]) w) := by
  obtain ⟨⟨_, _⟩, ⟨_, _⟩, ⟨_, _⟩, ⟨_, _⟩, _, _⟩ := id hc
  have hmf : ∀ (fn : Fn) (first cap : Array Value) (w : World), (Instr.makeFunc fn first cap).run Try.prog w = .ok (.func fn first cap) w := fun _ _ _ _ => rfl
  go_enter Try.func31, Try.ntmps31
  go_wp2_with (first | (go_at_call 42; go_in) | (go_at_call 38; refine (cfgCheck_ok _ _ _ _ _ _ hc).mono ?_; rintro e w1 ⟨rfl, hb1⟩; obtain ⟨hc1, hf1⟩ := bcell hb1) | (go_at_call 43; go_in))
  all_goals
    go_ret2
    exact ⟨ri2 (by unfold larg; omega) rfl, by (repeat (first | exact Below.refl _ _ | (refine below_new ?_ (Nat.le_refl _) _) | (refine below_drewN ?_ _) | (refine Below.drew ?_) | (refine below_call (by assumption) ?_ (Nat.le_refl _)) | (refine below_set ?_ (by simp) _)))⟩

set_option maxHeartbeats 400000 in
theorem budget_ok (C N S K Q : Int) (w : World) (hc : CfgOk C N S K Q) :
    Calls Try.prog 44 #[.agg #[.int .i64 C, .int .i64 N, .int .i64 S, .int .i64 K, .int .i64 Q]] w (Ret (.tuple #[.int .i64 (bud C N), .int .i64 0]) w) := by
  obtain ⟨⟨c1, c2⟩, ⟨n1, n2⟩, ⟨_, _⟩, ⟨_, _⟩, _, _⟩ := id hc
  obtain ⟨b1, b2, B3⟩ := budget_bounds c1 c2 n1 n2
  have b3 : (N - 2 - 2 - 2) * C = (N - 6) * C := by rw [show N - 2 - 2 - 2 = N - 6 by omega]
  have b4 : 8 ≤ (N - 2 - 2 - 2) * C := by rw [b3]; exact b1
  have b5 : (N - 2 - 2 - 2) * C ≤ 1152 := by rw [b3]; exact b2
  have B6 : Hid (_ = _) := b3
  clear B3 b3
  have hmf : ∀ (fn : Fn) (first cap : Array Value) (w : World), (Instr.makeFunc fn first cap).run Try.prog w = .ok (.func fn first cap) w := fun _ _ _ _ => rfl
  go_enter Try.func44, Try.ntmps44
  go_wp2_with (first | (go_at_call 42; go_in) | (go_at_call 38; refine (cfgCheck_ok _ _ _ _ _ _ hc).mono ?_; rintro e w1 ⟨rfl, hb1⟩; obtain ⟨hc1, hf1⟩ := bcell hb1) | (go_at_call 47; go_in))
  go_ret2
  refine ⟨ri2 ?_ rfl, by (repeat (first | exact Below.refl _ _ | (refine below_new ?_ (Nat.le_refl _) _) | (refine below_drewN ?_ _) | (refine Below.drew ?_) | (refine below_call (by assumption) ?_ (Nat.le_refl _)) | (refine below_set ?_ (by simp) _)))⟩
  exact B6.out

end Go.Proofs.Ytohlaginanbclaa
