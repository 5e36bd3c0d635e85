/-
  Plain facts on the answers of the layer admit.
-/
import Derived.Test.YtohlaginanbclaaPlain
namespace Go.Proofs.Ytohlaginanbclaa

def lackB (C N o l n : Int) : Bool := decide (l < n) || decide (slk C N o < n)
theorem chkE_ok {C N S K Q o l : Int} (hc : cfgB C N S K Q = true) (hs : stB C N S o l = true) : chkE C N S K Q o l = 0 := by unfold chkE; rw [hc, hs]; rfl
theorem chkE_no {C N S K Q o l : Int} (h : (cfgB C N S K Q && stB C N S o l) = false) : chkE C N S K Q o l = 7 := by unfold chkE; rw [h]; rfl
theorem admE_no {C N S K Q o l : Int} (n : Int) (h : (cfgB C N S K Q && stB C N S o l) = false) : admE C N S K Q o l n = 7 := by unfold admE; rw [h]; rfl

theorem admE_cases (C N S K Q o l n : Int) : admE C N S K Q o l n = 0 ∨ admE C N S K Q o l n = 5 ∨ admE C N S K Q o l n = 7 ∨ admE C N S K Q o l n = 11 := by
  unfold admE
  by_cases h0 : (cfgB C N S K Q && stB C N S o l) = true
  · rw [if_pos h0]
    by_cases h1 : n < 1
    · rw [if_pos h1]; omega
    · rw [if_neg h1]
      by_cases h2 : larg C S < n
      · rw [if_pos h2]; omega
      · rw [if_neg h2]
        by_cases h3 : l < n ∨ slk C N o < n
        · rw [if_pos h3]; omega
        · rw [if_neg h3]; omega
  · rw [if_neg h0]; omega

def kOf (x : Int) : Int := if x = 0 then 1 else if x = 5 then 2 else 0
def rOf (x : Int) : Int := if x = 5 then 0 else x
theorem larg_bounds {C N S K Q : Int} (h : CfgOk C N S K Q) : 1 ≤ larg C S ∧ larg C S ≤ 64 := by
  obtain ⟨⟨_, _⟩, ⟨_, _⟩, ⟨_, _⟩, ⟨_, _⟩, _, _⟩ := h
  unfold larg; omega
theorem mostN_ok {C N S K Q o l : Int} (hc : cfgB C N S K Q = true) (hs : stB C N S o l = true) : mostN C N S K Q o l = min (min (larg C S) l) (slk C N o) := by unfold mostN; rw [hc, hs]; rfl
theorem mostN_no {C N S K Q o l : Int} (h : (cfgB C N S K Q && stB C N S o l) = false) : mostN C N S K Q o l = 0 := by unfold mostN; rw [h]; rfl


theorem occE_no {C N S K Q o : Int} (h : (cfgB C N S K Q && occB C N S o) = false) : occE C N S K Q o = 7 := by unfold occE; rw [h]; rfl
theorem occE_ok {C N S K Q o : Int} (h : (cfgB C N S K Q && occB C N S o) = true) : occE C N S K Q o = 0 := by unfold occE; rw [h]; rfl
theorem chkE_of_occ {C N S K Q o l : Int} (h : (cfgB C N S K Q && occB C N S o) = false) : chkE C N S K Q o l = 7 := by
  apply chkE_no
  cases h1 : cfgB C N S K Q
  · rfl
  · rw [h1, Bool.true_and] at h
    rw [Bool.true_and, stB_false]
    intro hs
    rw [occB_false] at h
    exact h hs.1
theorem admE_yes {C N S K Q o l : Int} (n : Int) (hc : cfgB C N S K Q = true) (hs : stB C N S o l = true) : admE C N S K Q o l n = if n < 1 then 7 else if larg C S < n then 11 else if l < n ∨ slk C N o < n then 5 else 0 := by unfold admE; rw [hc, hs]; rfl
theorem rOf_1 {g n : Int} {p : Prop} [Decidable p] (h : n < 1) : rOf (if n < 1 then 7 else if g < n then 11 else if p then 5 else 0) = 7 := by rw [if_pos h]; rfl
theorem rOf_2 {g n : Int} {p : Prop} [Decidable p] (h : ¬ n < 1) (h2 : g < n) : rOf (if n < 1 then 7 else if g < n then 11 else if p then 5 else 0) = 11 := by rw [if_neg h, if_pos h2]; rfl
theorem rOf_3 {g n : Int} {p : Prop} [Decidable p] (h : ¬ n < 1) (h2 : ¬ g < n) : rOf (if n < 1 then 7 else if g < n then 11 else if p then 5 else 0) = 0 := by rw [if_neg h, if_neg h2]; by_cases hp : p <;> simp [hp, rOf]
theorem lackB_iff {C N o l n : Int} (hn : 1 ≤ n) : (!lackB C N o l n) = (decide (n ≤ l) && decide (2 * (o + n) ≤ bud C N)) := by
  unfold lackB slk
  rw [Bool.eq_iff_iff]
  simp
  omega
/-- What is asked for, in a good state: too few, too much, lacking, or admitted. -/
theorem admE_lack {C N S K Q o l n : Int} (hc : cfgB C N S K Q = true) (hs : stB C N S o l = true) (h1 : 1 ≤ n) (h2 : n ≤ larg C S) : admE C N S K Q o l n = if lackB C N o l n then 5 else 0 := by
  rw [admE_yes n hc hs, if_neg (by omega), if_neg (by omega)]
  unfold lackB
  by_cases h : l < n ∨ slk C N o < n
  · rw [if_pos h, if_pos (by simpa using h)]
  · rw [if_neg h, if_neg (by simpa using h)]
theorem ask_cases (C N S K Q o l n : Int) : (admE C N S K Q o l n = 7) ∨ (admE C N S K Q o l n = 11) ∨ (rOf (admE C N S K Q o l n) = 0 ∧ cfgB C N S K Q = true ∧ stB C N S o l = true ∧ 1 ≤ n ∧ n ≤ larg C S ∧ n ≤ 64 ∧ admE C N S K Q o l n = if lackB C N o l n then 5 else 0) := by
  cases h : (cfgB C N S K Q && stB C N S o l)
  · exact .inl (admE_no n h)
  · rw [Bool.and_eq_true] at h
    by_cases h1 : n < 1
    · exact .inl (by rw [admE_yes n h.1 h.2, if_pos h1])
    · by_cases h2 : larg C S < n
      · exact .inr (.inl (by rw [admE_yes n h.1 h.2, if_neg h1, if_pos h2]))
      · have h3 := larg_bounds (cfgB_true.1 h.1)
        refine .inr (.inr ⟨?_, h.1, h.2, by omega, by omega, by omega, admE_lack h.1 h.2 (by omega) (by omega)⟩)
        rw [admE_lack h.1 h.2 (by omega) (by omega)]
        cases lackB C N o l n <;> rfl
end Go.Proofs.Ytohlaginanbclaa
