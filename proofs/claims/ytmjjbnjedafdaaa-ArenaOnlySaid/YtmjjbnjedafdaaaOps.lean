/-
  Plain: what operations on an arena do.
-/
import Derived.Test.YtmjjbnjedafdaaaMove
import Derived.Test.YtmjjbnjedafdaaaGet
import Derived.Test.YtmjjbnjedafdaaaKinds
namespace Go.Proofs.Ytmjjbnjedafdaaa
open Go.RowKit

structure AOp where
  k : Int
  a : Int
  b : Int
  n : Int
  v : Int
def AOp.val (x : AOp) : Value := .agg #[.int .i64 x.k, .int .i64 x.a, .int .i64 x.b, .int .i64 x.n, .int .u64 x.v]
/-- The error of an operation on an arena of so many words. -/
def opE (len : Nat) (x : AOp) : Int :=
  if x.k = 1 ∨ x.k = 2 then (if partB len x.a 1 then 0 else 7) else if x.k = 3 then (if partB len x.a x.n && partB len x.b x.n then 0 else 7) else if x.k = 4 then (if partB len x.a x.n then 0 else 7) else 2
/-- The arena behind it; what it reads; how many words it reads and writes. -/
def opOut (l : List Int) (x : AOp) : List Int :=
  if x.k = 2 then l.set x.a.toNat x.v else if x.k = 3 then splice l x.b.toNat (cut l x.a.toNat x.n.toNat) else if x.k = 4 then splice l x.a.toNat (List.replicate x.n.toNat 0) else l
def opGot (l : List Int) (x : AOp) : List Int := if x.k = 1 then [l.getD x.a.toNat 0] else []
def opR (x : AOp) : Int := if x.k = 1 then 1 else if x.k = 3 then x.n else 0
def opW (x : AOp) : Int := if x.k = 2 then 1 else if x.k = 3 ∨ x.k = 4 then x.n else 0

theorem splice_nil (l : List Int) (o : Nat) : splice l o [] = l := by simp [splice]
theorem opOut_length (l : List Int) (x : AOp) (h : opE l.length x = 0) : (opOut l x).length = l.length := by
  unfold opE at h
  unfold opOut
  by_cases h2 : x.k = 2
  · rw [if_pos h2, List.length_set]
  · rw [if_neg h2]
    by_cases h3 : x.k = 3
    · rw [if_pos h3]
      rw [if_neg (by omega), if_pos h3] at h
      have hp : (partB l.length x.a x.n && partB l.length x.b x.n) = true := by
        cases hp : (partB l.length x.a x.n && partB l.length x.b x.n)
        · rw [hp] at h; exact absurd h (by decide)
        · rfl
      rw [Bool.and_eq_true, partB_true, partB_true] at hp
      refine length_splice _ _ _ ?_
      rw [cut_length _ _ _ (by omega)]; omega
    · rw [if_neg h3]
      by_cases h4 : x.k = 4
      · rw [if_pos h4]
        rw [if_neg (by omega), if_neg h3, if_pos h4] at h
        have hp : partB l.length x.a x.n = true := by
          cases hp : partB l.length x.a x.n
          · rw [hp] at h; exact absurd h (by decide)
          · rfl
        rw [partB_true] at hp
        refine length_splice _ _ _ ?_
        simp; omega
      · rw [if_neg h4]

/-- The methods, by the kind of an operation. -/
def opF (k : Int) : Nat := if k = 1 then 43 else if k = 2 then 44 else if k = 3 then 45 else 46

section
variable (w0 w : World) (P zb base : Nat) (rest : List Value) (out got : List Int) (gv : Value) (r c : Int)

def OpOk (x : AOp) (w' : World) : Prop := ∃ gv', PF w0 P zb base rest (opOut out x) (got ++ opGot out x) gv' (r + opR x) (c + opW x) w w'

theorem do_ok (x : AOp) (h : Pl w0 P zb base rest out got gv r c w) (hl : out.length ≤ 1601) (hk : x.k = 1 ∨ x.k = 2 ∨ x.k = 3 ∨ x.k = 4) (he : opE out.length x = 0) (c0 : 0 ≤ c) (c1 : c ≤ 1000000) (r0 : 0 ≤ r) (r1 : r ≤ 1000000) (hg : got.length ≤ 1000000) :
    Calls Try.prog (opF x.k) #[.pointer (some ⟨P, 0, none⟩), x.val] w (Does 0 (OpOk w0 w P zb base rest out got r c x)) := by
  obtain ⟨k, a, b, n, v⟩ := x
  simp only [AOp.val] at *
  rcases hk with rfl | rfl | rfl | rfl
  · have hp : partB out.length a 1 = true := by
      cases hp : partB out.length a 1
      · simp [opE, hp] at he
      · rfl
    obtain ⟨p1, p2, p3, p4⟩ := partB_true.1 hp
    obtain ⟨a, rfl⟩ := Int.eq_ofNat_of_zero_le (show 0 ≤ a by omega)
    refine (pget_yes w0 w P zb base rest out got gv r c 1 b n v a h hl (by omega) (by omega) r0 r1 hg).mono fun e w' ⟨h1, gv', h2⟩ => ⟨h1, gv', ?_⟩
    have : PF w0 P zb base rest out (got ++ [out.getD a 0]) gv' (r + 1) (c + 0) w w' := by rw [Int.add_zero]; exact h2
    exact this
  · have hp : partB out.length a 1 = true := by
      cases hp : partB out.length a 1
      · simp [opE, hp] at he
      · rfl
    obtain ⟨p1, p2, p3, p4⟩ := partB_true.1 hp
    obtain ⟨a, rfl⟩ := Int.eq_ofNat_of_zero_le (show 0 ≤ a by omega)
    refine (pset_yes w0 w P zb base rest out got gv r c 2 b n v a h hl (by omega) (by omega) c0 c1).mono fun e w' ⟨h1, h2⟩ => ⟨h1, gv, ?_⟩
    have : PF w0 P zb base rest (out.set a v) (got ++ []) gv (r + 0) (c + 1) w w' := by rw [Int.add_zero, List.append_nil]; exact h2
    exact this
  · have hp : (partB out.length a n && partB out.length b n) = true := by
      cases hp : (partB out.length a n && partB out.length b n)
      · simp [opE, hp] at he
      · rfl
    rw [Bool.and_eq_true] at hp
    obtain ⟨p1, p2, p3, p4⟩ := partB_true.1 hp.1
    obtain ⟨q1, q2, q3, q4⟩ := partB_true.1 hp.2
    obtain ⟨a, rfl⟩ := Int.eq_ofNat_of_zero_le (show 0 ≤ a by omega)
    obtain ⟨b, rfl⟩ := Int.eq_ofNat_of_zero_le (show 0 ≤ b by omega)
    obtain ⟨n, rfl⟩ := Int.eq_ofNat_of_zero_le p3
    by_cases hn : n = 0
    · subst hn
      refine (pmove_zero w0 w P zb base rest out got gv r c 3 v a b h hl (by omega) (by omega) (by omega) (by omega) c0 c1 r0 r1).mono fun e w' ⟨h1, h2⟩ => ⟨h1, gv, ?_⟩
      have : PF w0 P zb base rest (splice out b (cut out a 0)) (got ++ []) gv (r + 0) (c + 0) w w' := by rw [Int.add_zero, Int.add_zero, List.append_nil, show cut out a 0 = [] by simp [cut], splice_nil]; exact h2
      exact this
    · refine (pmove_yes w0 w P zb base rest out got gv r c 3 v a b n h hl (by omega) (by omega) (by omega) (by omega) (by omega) c0 c1 r0 r1).mono fun e w' ⟨h1, h2⟩ => ⟨h1, gv, ?_⟩
      have : PF w0 P zb base rest (splice out b (cut out a n)) (got ++ []) gv (r + n) (c + n) w w' := by rw [List.append_nil]; exact h2
      exact this
  · have hp : partB out.length a n = true := by
      cases hp : partB out.length a n
      · simp [opE, hp] at he
      · rfl
    obtain ⟨p1, p2, p3, p4⟩ := partB_true.1 hp
    obtain ⟨a, rfl⟩ := Int.eq_ofNat_of_zero_le (show 0 ≤ a by omega)
    obtain ⟨n, rfl⟩ := Int.eq_ofNat_of_zero_le p3
    by_cases hn : n = 0
    · subst hn
      refine (pclean_zero w0 w P zb base rest out got gv r c 4 b v a h hl (by omega) (by omega) c0 c1).mono fun e w' ⟨h1, h2⟩ => ⟨h1, gv, ?_⟩
      have : PF w0 P zb base rest (splice out a (List.replicate 0 0)) (got ++ []) gv (r + 0) (c + 0) w w' := by rw [Int.add_zero, Int.add_zero, List.append_nil, show List.replicate 0 (0 : Int) = [] by rfl, splice_nil]; exact h2
      exact this
    · refine (pclean_yes w0 w P zb base rest out got gv r c 4 b v a n h hl (by omega) (by omega) (by omega) c0 c1).mono fun e w' ⟨h1, h2⟩ => ⟨h1, gv, ?_⟩
      have : PF w0 P zb base rest (splice out a (List.replicate n 0)) (got ++ []) gv (r + 0) (c + n) w w' := by rw [Int.add_zero, List.append_nil]; exact h2
      exact this

theorem do_err (x : AOp) (h : Pl w0 P zb base rest out got gv r c w) (hl : out.length ≤ 1601) (hk : x.k = 1 ∨ x.k = 2 ∨ x.k = 3 ∨ x.k = 4) (he : opE out.length x ≠ 0) :
    opE out.length x = 7 ∧ Calls Try.prog (opF x.k) #[.pointer (some ⟨P, 0, none⟩), x.val] w (Does 7 (PF w0 P zb base rest out got gv r c w)) := by
  obtain ⟨k, a, b, n, v⟩ := x
  simp only [AOp.val] at *
  rcases hk with rfl | rfl | rfl | rfl
  · have hp : partB out.length a 1 = false := by
      cases hp : partB out.length a 1
      · rfl
      · simp [opE, hp] at he
    exact ⟨by simp [opE, hp], pget_no w0 w P zb base rest out got gv r c 1 b n v a h hl hp⟩
  · have hp : partB out.length a 1 = false := by
      cases hp : partB out.length a 1
      · rfl
      · simp [opE, hp] at he
    exact ⟨by simp [opE, hp], pset_no w0 w P zb base rest out got gv r c 2 b n v a h hl hp⟩
  · cases hp : partB out.length a n
    · cases hq : partB out.length b n
      · exact ⟨by simp [opE, hp], pmove_nn w0 w P zb base rest out got gv r c 3 v a b n h hl hp hq⟩
      · exact ⟨by simp [opE, hp], pmove_ny w0 w P zb base rest out got gv r c 3 v a b n h hl hp hq⟩
    · cases hq : partB out.length b n
      · exact ⟨by simp [opE, hq], pmove_yn w0 w P zb base rest out got gv r c 3 v a b n h hl hp hq⟩
      · simp [opE, hp, hq] at he
  · have hp : partB out.length a n = false := by
      cases hp : partB out.length a n
      · rfl
      · simp [opE, hp] at he
    exact ⟨by simp [opE, hp], pclean_no w0 w P zb base rest out got gv r c 4 b n v a h hl hp⟩
end
end Go.Proofs.Ytmjjbnjedafdaaa
