/-
  Plain: what Run computes.
-/
import Derived.Test.YtohlaginanbclaaPlain2
namespace Go.Proofs.Ytohlaginanbclaa

/-- How many numbers are admitted one behind the other, and the error that ends it (0: none). -/
def runN (C N S K Q : Int) : Int → Int → List Int → Nat × Int
  | _, _, [] => (0, 0)
  | o, l, n :: r => if admE C N S K Q o l n = 0 then ((runN C N S K Q (o + n) (l - n) r).1 + 1, (runN C N S K Q (o + n) (l - n) r).2) else (0, admE C N S K Q o l n)

theorem runN_no {C N S K Q o l n : Int} {r : List Int} (h : admE C N S K Q o l n ≠ 0) : runN C N S K Q o l (n :: r) = (0, admE C N S K Q o l n) := by unfold runN; rw [if_neg h]
theorem runN_yes {C N S K Q o l n : Int} {r : List Int} (h : admE C N S K Q o l n = 0) : runN C N S K Q o l (n :: r) = ((runN C N S K Q (o + n) (l - n) r).1 + 1, (runN C N S K Q (o + n) (l - n) r).2) := by rw [runN, if_pos h]

/-- What admission says. -/
theorem adm_zero {C N S K Q o l n : Int} (h : admE C N S K Q o l n = 0) : cfgB C N S K Q = true ∧ stB C N S o l = true ∧ 1 ≤ n ∧ n ≤ larg C S ∧ n ≤ 64 ∧ n ≤ l ∧ n ≤ slk C N o ∧ 2 * (o + n) ≤ bud C N ∧ stB C N S (o + n) (l - n) = true := by
  rcases ask_cases C N S K Q o l n with h' | h' | ⟨_, hc, hs, h1, h2, h3, he⟩
  · omega
  · omega
  · have hk : lackB C N o l n = false := by
      cases hk : lackB C N o l n
      · rfl
      · rw [he, hk] at h; exact absurd h (by decide)
    have hi := lackB_iff (C := C) (N := N) (o := o) (l := l) h1
    rw [hk] at hi
    simp at hi
    have hkk : ¬ (l < n ∨ slk C N o < n) := by unfold lackB at hk; simpa using hk
    obtain ⟨⟨c1, c2⟩, ⟨n1, n2⟩, ⟨_, _⟩, ⟨_, _⟩, _, _⟩ := cfgB_true.1 hc
    obtain ⟨b1, b2⟩ := prod_bounds c1 c2 n1 n2
    obtain ⟨b4, b5, b6⟩ := budget_bounds c1 c2 n1 n2
    obtain ⟨⟨o1, o2⟩, l1, l2, l3⟩ := stB_true.1 hs
    have hbu : bud C N = (N - 6) * C := rfl
    exact ⟨hc, hs, h1, h2, h3, hi.1, by omega, hi.2, stB_true.2 ⟨⟨by omega, by omega⟩, by omega, by omega, by omega⟩⟩
end Go.Proofs.Ytohlaginanbclaa
