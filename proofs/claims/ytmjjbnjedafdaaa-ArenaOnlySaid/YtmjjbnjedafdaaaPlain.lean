/-
  Plain: operations played in two parts; bounds; the first word stays 0.
-/
import Derived.Test.YtmjjbnjedafdaaaZero
namespace Go.Proofs.Ytmjjbnjedafdaaa
open Go.RowKit

/-- What operations come to, whatever was done before. -/
theorem plays_form (ys : List AOp) : ∀ out : List Int, ∃ (e : Int) (o G : List Int) (a b j : Int), ∀ (got : List Int) (r c : Int) (i : Nat), plays out got r c i ys = if e = 0 then ⟨o, got ++ G, r + a, c + b, 0, 0⟩ else ⟨[], [], 0, 0, i + j, e⟩ := by
  induction ys with
  | nil => intro out; exact ⟨0, out, [], 0, 0, 0, fun got r c i => by simp [plays]⟩
  | cons x l ih =>
    intro out
    by_cases he : opE out.length x = 0
    · obtain ⟨e, o, G, a, b, j, h⟩ := ih (opOut out x)
      refine ⟨e, o, opGot out x ++ G, opR x + a, opW x + b, 1 + j, fun got r c i => ?_⟩
      rw [plays, if_pos he, h]
      by_cases h0 : e = 0
      · rw [if_pos h0, if_pos h0, List.append_assoc, Int.add_assoc, Int.add_assoc]
      · rw [if_neg h0, if_neg h0, show ((i + 1 : Nat) : Int) + j = (i : Int) + (1 + j) by omega]
    · refine ⟨opE out.length x, [], [], 0, 0, 0, fun got r c i => ?_⟩
      rw [plays, if_neg he, if_neg he, Int.add_zero]
theorem plays_append (xs ys : List AOp) : ∀ (out got : List Int) (r c : Int) (i : Nat), plays out got r c i (xs ++ ys) = if (plays out got r c i xs).e = 0 then plays (plays out got r c i xs).out (plays out got r c i xs).got (plays out got r c i xs).r (plays out got r c i xs).c (i + xs.length) ys else plays out got r c i xs := by
  induction xs with
  | nil => intro out got r c i; simp [plays]
  | cons x l ih =>
    intro out got r c i
    rw [List.cons_append, plays, plays]
    by_cases he : opE out.length x = 0
    · rw [if_pos he, if_pos he, ih, List.length_cons, show i + 1 + l.length = i + (l.length + 1) by omega]
    · rw [if_neg he, if_neg he, if_neg he]
/-- The first word stays. -/
theorem opOut_first (l : List Int) (x : AOp) (h : opE l.length x = 0) : (opOut l x).getD 0 0 = l.getD 0 0 := by
  unfold opE at h
  unfold opOut
  have hsp : ∀ (o : Nat) (cs : List Int), 1 ≤ o → o ≤ l.length → (splice l o cs).getD 0 0 = l.getD 0 0 := by
    intro o cs h1 h2
    unfold splice
    rw [List.getD, List.getElem?_append_left (by rw [List.length_take]; omega), List.getElem?_take_of_lt (by omega)]; rfl
  by_cases h2 : x.k = 2
  · rw [if_pos (by omega)] at h
    rw [if_pos h2]
    have hp : partB l.length x.a 1 = true := by
      cases hp : partB l.length x.a 1
      · rw [hp] at h; exact absurd h (by decide)
      · rfl
    rw [partB_true] at hp
    simp [List.getD, show ¬ x.a.toNat = 0 by omega]
  · rw [if_neg h2]
    by_cases h3 : x.k = 3
    · rw [if_pos h3]
      rw [if_neg (by omega), if_pos h3] at h
      have hp : (partB l.length x.a x.n && partB l.length x.b x.n) = true := by
        cases hp : (partB l.length x.a x.n && partB l.length x.b x.n)
        · rw [hp] at h; exact absurd h (by decide)
        · rfl
      rw [Bool.and_eq_true, partB_true, partB_true] at hp
      exact hsp _ _ (by omega) (by omega)
    · rw [if_neg h3]
      by_cases h4 : x.k = 4
      · rw [if_pos h4]
        rw [if_neg (by omega), if_neg h3, if_pos h4] at h
        have hp : partB l.length x.a x.n = true := by
          cases hp : partB l.length x.a x.n
          · rw [hp] at h; exact absurd h (by decide)
          · rfl
        rw [partB_true] at hp
        exact hsp _ _ (by omega) (by omega)
      · rw [if_neg h4]
theorem plays_first (xs : List AOp) : ∀ (out got : List Int) (r c : Int) (i : Nat), (plays out got r c i xs).e = 0 → (plays out got r c i xs).out.getD 0 0 = out.getD 0 0 := by
  induction xs with
  | nil => intro out got r c i _; rfl
  | cons x l ih =>
    intro out got r c i
    unfold plays
    by_cases he : opE out.length x = 0
    · rw [if_pos he]; intro h; rw [ih _ _ _ _ _ h, opOut_first _ _ he]
    · rw [if_neg he]; intro h; exact absurd h he
theorem plays_bounds (xs : List AOp) : ∀ (out got : List Int) (r c : Int) (i : Nat), out.length ≤ 1601 → (plays out got r c i xs).e = 0 → r ≤ (plays out got r c i xs).r ∧ (plays out got r c i xs).r ≤ r + 1601 * xs.length ∧ c ≤ (plays out got r c i xs).c ∧ (plays out got r c i xs).c ≤ c + 1601 * xs.length ∧ (plays out got r c i xs).got.length ≤ got.length + xs.length := by
  induction xs with
  | nil => intro out got r c i _ _; simp [plays]
  | cons x l ih =>
    intro out got r c i hl
    unfold plays
    by_cases he : opE out.length x = 0
    · rw [if_pos he]
      intro h
      have h1 := ih (opOut out x) (got ++ opGot out x) (r + opR x) (c + opW x) (i + 1) (by rw [opOut_length _ _ he]; exact hl) h
      have h2 := opR_bound he hl
      have h3 := opGot_le out x
      simp only [List.length_append, List.length_cons] at h1 ⊢
      omega
    · rw [if_neg he]; intro h; exact absurd h he
theorem chk_keeps {zs out : List Int} (h : chkA zs = 0) (h1 : out.length = zs.length) (h2 : out.getD 0 0 = zs.getD 0 0) : chkA out = 0 := by
  unfold chkA at h ⊢; rw [h1, h2]; exact h

/-- Play in two parts. -/
structure TwoParts (zs : List Int) (xs : List AOp) (k : Nat) : Prop where
  first : (playR zs (xs.take k)).e ≠ 0 → (playR zs xs).e = (playR zs (xs.take k)).e ∧ (playR zs xs).i = (playR zs (xs.take k)).i
  second : (playR zs (xs.take k)).e = 0 → (playR (playR zs (xs.take k)).out (xs.drop k)).e ≠ 0 → (playR zs xs).e = (playR (playR zs (xs.take k)).out (xs.drop k)).e ∧ (playR zs xs).i = k + (playR (playR zs (xs.take k)).out (xs.drop k)).i
  both : (playR zs (xs.take k)).e = 0 → (playR (playR zs (xs.take k)).out (xs.drop k)).e = 0 → (playR zs xs).e = 0 ∧ (playR zs xs).out = (playR (playR zs (xs.take k)).out (xs.drop k)).out ∧ (playR zs xs).got = (playR zs (xs.take k)).got ++ (playR (playR zs (xs.take k)).out (xs.drop k)).got ∧ (playR zs xs).r = (playR zs (xs.take k)).r + (playR (playR zs (xs.take k)).out (xs.drop k)).r ∧ (playR zs xs).c = (playR zs (xs.take k)).c + (playR (playR zs (xs.take k)).out (xs.drop k)).c
theorem playR_ok {zs : List Int} {xs : List AOp} (h : chkA zs = 0) (hn : xs.length ≤ 500) : playR zs xs = plays zs [] 0 0 0 xs := by unfold playR; rw [if_neg (by simpa using h), if_neg (by omega)]
theorem playR_no {zs : List Int} (xs : List AOp) (h : chkA zs ≠ 0) : playR zs xs = ⟨[], [], 0, 0, 0, chkA zs⟩ := by unfold playR; rw [if_pos h]
theorem two_parts (zs : List Int) (xs : List AOp) (k : Nat) (hn : xs.length ≤ 500) (hk : k ≤ xs.length) : TwoParts zs xs k := by
  by_cases hc : chkA zs = 0
  · have ht : (xs.take k).length ≤ 500 := by rw [List.length_take]; omega
    have hd : (xs.drop k).length ≤ 500 := by rw [List.length_drop]; omega
    have hl : (xs.take k).length = k := by rw [List.length_take]; omega
    have hsplit := plays_append (xs.take k) (xs.drop k) zs [] 0 0 0
    rw [List.take_append_drop, hl, Nat.zero_add] at hsplit
    have hlen := plays_length (xs.take k) zs [] 0 0 0
    have hfst := plays_first (xs.take k) zs [] 0 0 0
    rw [← playR_ok hc hn, ← playR_ok hc ht] at hsplit
    rw [← playR_ok hc ht] at hlen hfst
    obtain ⟨e, o, G, a, b, j, hf⟩ := plays_form (xs.drop k) (playR zs (xs.take k)).out
    have hP0 : (playR zs (xs.take k)).e = 0 → playR (playR zs (xs.take k)).out (xs.drop k) = plays (playR zs (xs.take k)).out [] 0 0 0 (xs.drop k) := fun h => playR_ok (chk_keeps hc (hlen h) (hfst h)) hd
    refine ⟨fun h => ?_, fun h h2 => ?_, fun h h2 => ?_⟩
    · rw [if_neg h] at hsplit; rw [hsplit]; exact ⟨rfl, rfl⟩
    · rw [if_pos h] at hsplit
      rw [hP0 h] at h2 ⊢
      rw [hsplit, hf, hf]
      rw [hf] at h2
      by_cases h0 : e = 0
      · rw [if_pos h0] at h2; exact absurd rfl h2
      · rw [if_neg h0, if_neg h0]; exact ⟨rfl, by simp⟩
    · rw [if_pos h] at hsplit
      rw [hP0 h] at h2 ⊢
      rw [hsplit, hf, hf]
      rw [hf] at h2
      by_cases h0 : e = 0
      · rw [if_pos h0, if_pos h0]; exact ⟨rfl, rfl, by simp, by simp, by simp⟩
      · rw [if_neg h0] at h2; exact absurd h2 h0
  · rw [← ne_eq] at hc
    have h1 := playR_no xs hc
    have h2 := playR_no (xs.take k) hc
    refine ⟨fun _ => by rw [h1, h2]; exact ⟨rfl, rfl⟩, fun h => ?_, fun h => ?_⟩
    · rw [h2] at h; exact absurd h hc
    · rw [h2] at h; exact absurd h hc

/-- Operations that lie in memory: the first ones, the rest. -/
theorem ops_take {w : World} {xs : List AOp} {lb lo cap k n : Nat} (hwf : ∀ x ∈ xs, (Lit.int .i64 x.k).wf = true) (hc : xs.length ≤ cap) (hb : lb < w.heap.size) (hx : ∀ (i : Nat) (x : AOp), xs[i]? = some x → w.cell? ⟨lb, lo + i * 5, none⟩ = some (.int .i64 x.k) ∧ w.cell? ⟨lb, lo + i * 5 + 1, none⟩ = some (.int .i64 x.a) ∧ w.cell? ⟨lb, lo + i * 5 + 2, none⟩ = some (.int .i64 x.b) ∧ w.cell? ⟨lb, lo + i * 5 + 3, none⟩ = some (.int .i64 x.n) ∧ w.cell? ⟨lb, lo + i * 5 + 4, none⟩ = some (.int .u64 x.v)) (hk : k ≤ xs.length) (hn : n = k) :
    OpsAt w (.slice (some ⟨lb, lo, none⟩) n cap) (xs.take k) := by
  subst hn
  have hl : (xs.take n).length = n := by rw [List.length_take]; omega
  refine ⟨fun x hx' => hwf x (List.mem_of_mem_take hx'), ?_⟩
  by_cases h0 : n = 0
  · subst h0; exact .inl ⟨by simp, _, _, rfl⟩
  · refine .inr ⟨by omega, lb, lo, cap, by rw [hl], by omega, hb, fun i x hi => hx i x ?_⟩
    have h1 := (List.getElem?_eq_some_iff.1 hi).1
    rw [hl] at h1
    rw [List.getElem?_take_of_lt h1] at hi
    exact hi
theorem ops_drop {w : World} {xs : List AOp} {lb lo cap k n o : Nat} (hwf : ∀ x ∈ xs, (Lit.int .i64 x.k).wf = true) (hb : lb < w.heap.size) (hx : ∀ (i : Nat) (x : AOp), xs[i]? = some x → w.cell? ⟨lb, lo + i * 5, none⟩ = some (.int .i64 x.k) ∧ w.cell? ⟨lb, lo + i * 5 + 1, none⟩ = some (.int .i64 x.a) ∧ w.cell? ⟨lb, lo + i * 5 + 2, none⟩ = some (.int .i64 x.b) ∧ w.cell? ⟨lb, lo + i * 5 + 3, none⟩ = some (.int .i64 x.n) ∧ w.cell? ⟨lb, lo + i * 5 + 4, none⟩ = some (.int .u64 x.v)) (hn : n = xs.length - k) (hcap : n ≤ cap) (ho : 0 < n → o = lo + k * 5) :
    OpsAt w (.slice (some ⟨lb, o, none⟩) n cap) (xs.drop k) := by
  subst hn
  have hl : (xs.drop k).length = xs.length - k := List.length_drop
  refine ⟨fun x hx' => hwf x (List.mem_of_mem_drop hx'), ?_⟩
  by_cases h0 : xs.length - k = 0
  · refine .inl ⟨List.eq_nil_of_length_eq_zero (by rw [hl]; exact h0), _, _, by rw [h0]⟩
  · obtain rfl := ho (by omega)
    refine .inr ⟨by omega, lb, lo + k * 5, cap, by rw [hl], by rw [hl]; exact hcap, hb, fun i x hi => ?_⟩
    rw [List.getElem?_drop] at hi
    have := hx (k + i) x hi
    rw [show lo + (k + i) * 5 = lo + k * 5 + i * 5 by omega] at this
    exact this
end Go.Proofs.Ytmjjbnjedafdaaa
