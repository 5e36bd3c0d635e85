/-
  Walks of the layer arena: Check, part.
-/
import Derived.Test.YtmjjbnjedafdaaaProg
import Derived.Test.YtmjjbnjedafdaaaMem
import Derived.WalkSpells
import Derived.WalkLawsBesides
import Derived.IntWalk
import Derived.Outline
namespace Go.Proofs.Ytmjjbnjedafdaaa
open Go.RowKit

/-- What a slice of words reads as. -/
def Words (w : World) (v : Value) (zs : List Int) : Prop :=
  (zs = [] ∧ ∃ (a : Option Addr) (cap : Nat), v = .slice a 0 cap) ∨ (0 < zs.length ∧ ∃ zb off cap : Nat, v = .slice (some ⟨zb, off, none⟩) zs.length cap ∧ zs.length ≤ cap ∧ zb < w.heap.size ∧ ∀ i : Nat, i < zs.length → w.cell? ⟨zb, off + i, none⟩ = some (.int .u64 (zs.getD i 0)))

def chkA (zs : List Int) : Int := if zs.length < 1 ∨ 1601 < zs.length then 3 else if zs.getD 0 0 = 0 then 0 else 6

set_option maxHeartbeats 400000 in
theorem check_long (a : Option Addr) (len cap : Nat) (w : World) (h : len < 1 ∨ 1601 < len) : Calls Try.prog 29 #[.slice a len cap] w fun e w' => e = .returned (.int .i64 3) ∧ w = w' := by
  have h' : len = 0 ∨ (1 ≤ len ∧ 1601 < len) := by omega
  clear h
  rcases h' with rfl | ⟨h1, h2⟩
  · go_enter Try.func29, Try.ntmps29
    go_wp2
    go_ret
    exact ⟨rfl, rfl⟩
  · have h3 : ¬ len < 1 := by omega
    have h4 : ¬ len = 0 := by omega
    go_enter Try.func29, Try.ntmps29
    go_wp2
    go_ret
    exact ⟨rfl, rfl⟩
set_option maxHeartbeats 400000 in
theorem check_at (zb off len cap : Nat) (x : Int) (w : World) (h1 : 1 ≤ len) (h2 : len ≤ 1601) (hc : w.cell? ⟨zb, off, none⟩ = some (.int .u64 x)) : Calls Try.prog 29 #[.slice (some ⟨zb, off, none⟩) len cap] w fun e w' => e = .returned (.int .i64 (if x = 0 then 0 else 6)) ∧ w = w' := by
  have h3 : ¬ len < 1 := by omega
  have h4 : ¬ len = 0 := by omega
  have h5 : ¬ 1601 < len := by omega
  have h6 : 0 < len := by omega
  by_cases hx : x = 0
  · subst hx
    go_enter Try.func29, Try.ntmps29
    go_wp2
    go_ret
    exact ⟨rfl, rfl⟩
  · rw [if_neg hx]
    have t1 : (x != 0) = true := by simpa using hx
    go_enter Try.func29, Try.ntmps29
    go_wp2
    go_ret
    exact ⟨rfl, rfl⟩
theorem check_any (zs : List Int) (v : Value) (w : World) (hv : Words w v zs) : Calls Try.prog 29 #[v] w fun e w' => e = .returned (.int .i64 (chkA zs)) ∧ w = w' := by
  unfold chkA
  rcases hv with ⟨rfl, a, cap, rfl⟩ | ⟨hp, zb, off, cap, rfl, _, _, hc⟩
  · exact check_long a 0 cap w (by omega)
  · by_cases hl : 1601 < zs.length
    · rw [if_pos (by omega)]; exact check_long _ _ _ w (by omega)
    · rw [if_neg (by omega)]; exact check_at zb off zs.length cap _ w (by omega) (by omega) (hc 0 hp)

set_option maxHeartbeats 400000 in
theorem part_some (zb off len cap a n : Nat) (w : World) (h1 : 1 ≤ a) (h2 : a + n ≤ len) (h3 : len ≤ cap) (h4 : len ≤ 1601) (h5 : 1 ≤ n) :
    Calls Try.prog 38 #[.slice (some ⟨zb, off, none⟩) len cap, .int .i64 a, .int .i64 n] w fun e w' => e = .returned (.tuple #[.slice (some ⟨zb, off + a, none⟩) n n, .int .i64 0]) ∧ w = w' := by
  have t1 : ¬ a < 1 := by omega
  have t2 : ¬ len < a := by omega
  have t3 : ¬ (len : Int) - (a : Int) < (n : Int) := by omega
  have t4 : ¬ n = 0 := by omega
  have t5 : a ≤ a + n := by omega
  have t6 : a + n ≤ cap := by omega
  have t7 : ¬ a = 0 := by omega
  go_enter Try.func38, Try.ntmps38
  go_wp2
  go_ret2
  exact ⟨rfl, rfl⟩

set_option maxHeartbeats 400000 in
theorem part_zero (zb off len cap a : Nat) (w : World) (h1 : 1 ≤ a) (h2 : a ≤ len) (h3 : len ≤ cap) (h4 : len ≤ 1601) :
    Calls Try.prog 38 #[.slice (some ⟨zb, off, none⟩) len cap, .int .i64 a, .int .i64 0] w fun e w' => e = .returned (.tuple #[.slice (some ⟨zb, off, none⟩) 0 0, .int .i64 0]) ∧ w = w' := by
  have t1 : ¬ a < 1 := by omega
  have t2 : ¬ len < a := by omega
  have t3 : ¬ (len : Int) - (a : Int) < 0 := by omega
  have t6 : a ≤ cap := by omega
  have t7 : ¬ a = 0 := by omega
  go_enter Try.func38, Try.ntmps38
  go_wp2
  go_ret2
  exact ⟨rfl, rfl⟩

def partB (len : Nat) (a n : Int) : Bool := decide (1 ≤ a ∧ a ≤ (len : Int) ∧ 0 ≤ n ∧ n ≤ (len : Int) - a)
theorem partB_true {len : Nat} {a n : Int} : partB len a n = true ↔ 1 ≤ a ∧ a ≤ (len : Int) ∧ 0 ≤ n ∧ n ≤ (len : Int) - a := by unfold partB; exact decide_eq_true_iff
theorem partB_false {len : Nat} {a n : Int} : partB len a n = false ↔ ¬ (1 ≤ a ∧ a ≤ (len : Int) ∧ 0 ≤ n ∧ n ≤ (len : Int) - a) := by rw [← partB_true]; simp

set_option maxHeartbeats 400000 in
theorem part_no (s : Option Addr) (len cap : Nat) (a n : Int) (w : World) (h4 : len ≤ 1601) (h : partB len a n = false) :
    Calls Try.prog 38 #[.slice s len cap, .int .i64 a, .int .i64 n] w fun e w' => e = .returned (.tuple #[.slice none 0 0, .int .i64 7]) ∧ w = w' := by
  rw [partB_false] at h
  have h' : a < 1 ∨ (¬ a < 1 ∧ (len : Int) < a) ∨ (¬ a < 1 ∧ ¬ (len : Int) < a ∧ n < 0) ∨ (1 ≤ a ∧ ¬ a < 1 ∧ ¬ (len : Int) < a ∧ a ≤ (len : Int) ∧ ¬ n < 0 ∧ (len : Int) - a < n) := by omega
  clear h
  rcases h' with h1 | ⟨h1, h2⟩ | ⟨h1, h2, h3⟩ | ⟨h0, h1, h2, h6, h3, h5⟩
  all_goals
    go_enter Try.func38, Try.ntmps38
    go_wp2
    go_ret2
    exact ⟨rfl, rfl⟩
end Go.Proofs.Ytmjjbnjedafdaaa
