/-
  Plain facts for the laws AdmitMost and AdmitOrder.
-/
import Derived.Test.YtohlaginanbclaaPlain3
namespace Go.Proofs.Ytohlaginanbclaa

theorem occ_of_st {C N S o l : Int} (h : stB C N S o l = true) : occB C N S o = true := occB_true.2 (stB_true.1 h).1
theorem slk_nonneg (C N o : Int) : 0 ≤ slk C N o := by unfold slk; omega
/-- What is admitted, what lacks, what is too large, in a good state. -/
theorem adm_is0 {C N S K Q o l n : Int} (hc : cfgB C N S K Q = true) (hs : stB C N S o l = true) (h1 : 1 ≤ n) (h2 : n ≤ larg C S) (h3 : n ≤ l) (h4 : n ≤ slk C N o) : admE C N S K Q o l n = 0 := by
  rw [admE_yes n hc hs, if_neg (by omega), if_neg (by omega), if_neg (by omega)]
theorem adm_is5 {C N S K Q o l n : Int} (hc : cfgB C N S K Q = true) (hs : stB C N S o l = true) (h1 : 1 ≤ n) (h2 : n ≤ larg C S) (h3 : l < n ∨ slk C N o < n) : admE C N S K Q o l n = 5 := by
  rw [admE_yes n hc hs, if_neg (by omega), if_neg (by omega), if_pos h3]
theorem adm_is11 {C N S K Q o l n : Int} (hc : cfgB C N S K Q = true) (hs : stB C N S o l = true) (h1 : 1 ≤ n) (h2 : larg C S < n) : admE C N S K Q o l n = 11 := by
  rw [admE_yes n hc hs, if_neg (by omega), if_pos h2]
/-- If n words are admitted, fewer are. -/
theorem adm_fewer {C N S K Q o l n k : Int} (h : admE C N S K Q o l n = 0) (h1 : 1 ≤ k) (h2 : k ≤ n) : admE C N S K Q o l k = 0 := by
  obtain ⟨hc, hs, _, a2, _, a4, a5, _, _⟩ := adm_zero h
  exact adm_is0 hc hs h1 (by omega) (by omega) (by omega)
/-- With fewer words occupied, or more left: admitted, or no state. -/
theorem adm_less {C N S K Q o l n : Int} (h : admE C N S K Q o l n = 0) : admE C N S K Q (o - 1) l n = 0 ∨ admE C N S K Q (o - 1) l n = 7 := by
  obtain ⟨hc, _, a1, a2, _, a4, a5, _, _⟩ := adm_zero h
  cases hs : stB C N S (o - 1) l
  · exact .inr (admE_no n (by rw [hs, Bool.and_false]))
  · exact .inl (adm_is0 hc hs a1 a2 a4 (by unfold slk at a5 ⊢; omega))
theorem adm_more {C N S K Q o l n : Int} (h : admE C N S K Q o l n = 0) : admE C N S K Q o (l + 1) n = 0 ∨ admE C N S K Q o (l + 1) n = 7 := by
  obtain ⟨hc, _, a1, a2, _, a4, a5, _, _⟩ := adm_zero h
  cases hs : stB C N S o (l + 1)
  · exact .inr (admE_no n (by rw [hs, Bool.and_false]))
  · exact .inl (adm_is0 hc hs a1 a2 (by omega) a5)
end Go.Proofs.Ytohlaginanbclaa
