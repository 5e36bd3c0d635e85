/-
  Plain facts for the laws AdmitSums, AdmitRoom, AdmitWords: what Run admits, summed up; cars; the least that is admitted.
-/
import Derived.Test.YtohlaginanbclaaPlain4
namespace Go.Proofs.Ytohlaginanbclaa

def sm : List Int → Int
  | [] => 0
  | a :: r => a + sm r
def smTo (zs : List Int) (k : Nat) : Int := sm (zs.take k)
theorem smTo_zero (zs : List Int) : smTo zs 0 = 0 := by simp [smTo, sm]
theorem sm_append (a b : List Int) : sm (a ++ b) = sm a + sm b := by
  induction a with
  | nil => simp [sm]
  | cons x r ih => simp only [List.cons_append, sm, ih]; omega
theorem smTo_succ (zs : List Int) (k : Nat) (h : k < zs.length) : smTo zs (k + 1) = smTo zs k + zs.getD k 0 := by
  unfold smTo
  rw [List.take_succ_eq_append_getElem h, sm_append]
  simp [sm, List.getD, h]
theorem smTo_cons (x : Int) (r : List Int) (k : Nat) : smTo (x :: r) (k + 1) = x + smTo r k := by simp [smTo, sm]

theorem slk_next {C N o n : Int} (h : n ≤ slk C N o) (h1 : 1 ≤ n) : slk C N (o + n) = slk C N o - n := by unfold slk at h ⊢; omega

/-- What Run admits, summed up. -/
structure RunSum (C N S K Q o l : Int) (zs : List Int) (d : Nat) (e : Int) : Prop where
  le : d ≤ zs.length
  iff : e = 0 ↔ d = zs.length
  one : ∀ i, i < d → 1 ≤ zs.getD i 0
  left : ∀ i, i ≤ d → 0 ≤ smTo zs i ∧ smTo zs i ≤ l
  slack : smTo zs d ≤ slk C N o
  full : e = 5 → d < zs.length ∧ 1 ≤ zs.getD d 0 ∧ zs.getD d 0 ≤ 64 ∧ ¬ (smTo zs d + zs.getD d 0 ≤ l ∧ smTo zs d + zs.getD d 0 ≤ slk C N o)
  state : ∀ h, h ≤ d → stB C N S (o + smTo zs h) (l - smTo zs h) = true
  rest : ∀ h, h ≤ d → runN C N S K Q (o + smTo zs h) (l - smTo zs h) (zs.drop h) = (d - h, e)

theorem run_sum {C N S K Q : Int} (zs : List Int) : ∀ (o l : Int), stB C N S o l = true → RunSum C N S K Q o l zs (runN C N S K Q o l zs).1 (runN C N S K Q o l zs).2 := by
  induction zs with
  | nil =>
    intro o l hs
    have h0 : runN C N S K Q o l [] = (0, 0) := rfl
    have hl : 0 ≤ l := (stB_true.1 hs).2.1
    have hk := slk_nonneg C N o
    rw [h0]
    refine ⟨Nat.le_refl _, by simp, fun i hi => by omega, fun i hi => ?_, by rw [smTo_zero]; exact hk, (fun h => by cases h), fun h hh => ?_, fun h hh => ?_⟩
    · obtain rfl : i = 0 := by omega
      rw [smTo_zero]; omega
    · obtain rfl : h = 0 := by omega
      rw [smTo_zero, Int.add_zero, Int.sub_zero]; exact hs
    · obtain rfl : h = 0 := by omega
      rw [smTo_zero, Int.add_zero, Int.sub_zero]; rfl
  | cons n r ih =>
    intro o l hs
    have hl : 0 ≤ l := (stB_true.1 hs).2.1
    have hk := slk_nonneg C N o
    by_cases ha : admE C N S K Q o l n = 0
    · obtain ⟨_, _, a1, a2, a3, a4, a5, a6, a7⟩ := adm_zero ha
      have hi := ih (o + n) (l - n) a7
      have hsl := slk_next a5 a1
      rw [runN_yes ha]
      obtain ⟨i1, i2, i3, i4, i5, i6, i7, i8⟩ := hi
      refine ⟨by simp; exact i1, ?_, ?_, ?_, ?_, ?_, ?_, ?_⟩
      · simp only [List.length_cons]; omega
      · intro i hi
        cases i with
        | zero => simpa using a1
        | succ j => simpa using i3 j (by simpa using hi)
      · intro i hi
        cases i with
        | zero => rw [smTo_zero]; omega
        | succ j => have := i4 j (by simpa using hi); rw [smTo_cons]; omega
      · rw [smTo_cons]; omega
      · intro he
        obtain ⟨j1, j2, j3, j4⟩ := i6 he
        rw [smTo_cons]
        have hg : (n :: r).getD ((runN C N S K Q (o + n) (l - n) r).1 + 1) 0 = r.getD (runN C N S K Q (o + n) (l - n) r).1 0 := by simp
        rw [hg]
        refine ⟨by simp; exact j1, j2, j3, ?_⟩
        omega
      · intro h hh
        cases h with
        | zero => rw [smTo_zero, Int.add_zero, Int.sub_zero]; exact hs
        | succ j =>
          have := i7 j (by simpa using hh)
          rw [smTo_cons, show o + (n + smTo r j) = o + n + smTo r j by omega, show l - (n + smTo r j) = l - n - smTo r j by omega]; exact this
      · intro h hh
        cases h with
        | zero => rw [smTo_zero, Int.add_zero, Int.sub_zero, List.drop_zero, runN_yes ha]; rfl
        | succ j =>
          have := i8 j (by simpa using hh)
          rw [smTo_cons, show o + (n + smTo r j) = o + n + smTo r j by omega, show l - (n + smTo r j) = l - n - smTo r j by omega, List.drop_succ_cons, this]
          simp
    · rw [runN_no ha]
      have hx : ∀ i, i ≤ 0 → i = 0 := fun i h => by omega
      refine ⟨Nat.zero_le _, ?_, fun i hi => by omega, fun i hi => ?_, by rw [smTo_zero]; exact hk, ?_, fun h hh => ?_, fun h hh => ?_⟩
      · constructor
        · intro h; exact absurd h ha
        · intro h; simp at h
      · obtain rfl := hx i hi
        rw [smTo_zero]; omega
      · intro h5
        rcases ask_cases C N S K Q o l n with h' | h' | ⟨_, _, _, h1, h2, h3, he⟩
        · rw [h'] at h5; cases h5
        · rw [h'] at h5; cases h5
        · rw [smTo_zero]
          have hkk : lackB C N o l n = true := by
            cases hq : lackB C N o l n
            · rw [he, hq] at h5; exact absurd h5 (by decide)
            · rfl
          have : l < n ∨ slk C N o < n := by unfold lackB at hkk; simpa using hkk
          simp only [List.length_cons, List.getD_cons_zero]
          refine ⟨by omega, h1, h3, ?_⟩
          omega
      · obtain rfl := hx h hh
        rw [smTo_zero, Int.add_zero, Int.sub_zero]; exact hs
      · obtain rfl := hx h hh
        rw [smTo_zero, Int.add_zero, Int.sub_zero, List.drop_zero, runN_no ha]; rfl

/-- Cars, where twice what is occupied is in the budget. -/
theorem cars_room {C N S K Q o : Int} (hc : cfgB C N S K Q = true) (h0 : 0 ≤ o) (hb : 2 * o ≤ bud C N) : 0 ≤ 2 * o / C ∧ 2 * o / C ≤ N - 6 := by
  obtain ⟨⟨c1, c2⟩, ⟨n1, n2⟩, ⟨_, _⟩, ⟨_, _⟩, _, _⟩ := cfgB_true.1 hc
  refine ⟨Int.ediv_nonneg (by omega) (by omega), ?_⟩
  have : 2 * o / C ≤ ((N - 6) * C) / C := Int.ediv_le_ediv (by omega) hb
  rwa [Int.mul_ediv_cancel _ (by omega)] at this

/-- The most that is admitted: by counting down. -/
theorem most_stop {C N o l n g : Int} (hm : min (min g l) (slk C N o) ≤ n) (hg : n ≤ g) (h : lackB C N o l n = false) : n = min (min g l) (slk C N o) := by
  have : ¬ (l < n ∨ slk C N o < n) := by unfold lackB at h; simpa using h
  omega
theorem most_next {C N o l n g : Int} (hm : min (min g l) (slk C N o) ≤ n) (h : lackB C N o l n = true) : min (min g l) (slk C N o) ≤ n - 1 := by
  have : l < n ∨ slk C N o < n := by unfold lackB at h; simpa using h
  omega
end Go.Proofs.Ytohlaginanbclaa
