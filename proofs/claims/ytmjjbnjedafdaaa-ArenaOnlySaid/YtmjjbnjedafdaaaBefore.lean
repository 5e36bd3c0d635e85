/-
  The words behind each of some operations; walk of the law's own 'before'.
-/
import Derived.Test.YtmjjbnjedafdaaaRefs
namespace Go.Proofs.Ytmjjbnjedafdaaa
open Go.RowKit

def seqS (zs : List Int) (xs : List AOp) (n : Nat) : List Int := (plays zs [] 0 0 0 (xs.take n)).out
def seqG (zs : List Int) (xs : List AOp) (n : Nat) : List Int := (plays zs [] 0 0 0 (xs.take n)).got
theorem prefix_ok {zs : List Int} {xs : List AOp} (h : (plays zs [] 0 0 0 xs).e = 0) (n : Nat) : (plays zs [] 0 0 0 (xs.take n)).e = 0 := by
  have hs := plays_append (xs.take n) (xs.drop n) zs [] 0 0 0
  rw [List.take_append_drop] at hs
  by_cases he : (plays zs [] 0 0 0 (xs.take n)).e = 0
  · exact he
  · rw [if_neg he] at hs; rw [hs] at h; exact absurd h he
theorem seq_zero (zs : List Int) (xs : List AOp) : seqS zs xs 0 = zs ∧ seqG zs xs 0 = [] := by simp [seqS, seqG, plays]
theorem seq_step {zs : List Int} {xs : List AOp} {i : Nat} {x : AOp} (h : (plays zs [] 0 0 0 xs).e = 0) (hx : xs[i]? = some x) : opE (seqS zs xs i).length x = 0 ∧ seqS zs xs (i + 1) = opOut (seqS zs xs i) x ∧ seqG zs xs (i + 1) = seqG zs xs i ++ opGot (seqS zs xs i) x ∧ (seqS zs xs i).length = zs.length := by
  have hlt := (List.getElem?_eq_some_iff.1 hx).1
  have ht : xs.take (i + 1) = xs.take i ++ [x] := by rw [List.take_succ_eq_append_getElem hlt, (List.getElem?_eq_some_iff.1 hx).2]
  have h1 := prefix_ok h i
  have h2 := prefix_ok h (i + 1)
  have hs := plays_append (xs.take i) [x] zs [] 0 0 0
  rw [← ht, if_pos h1] at hs
  have hl := plays_length (xs.take i) zs [] 0 0 0 h1
  unfold seqS seqG
  rw [hs] at h2 ⊢
  rw [plays] at h2 ⊢
  by_cases he : opE (plays zs [] 0 0 0 (xs.take i)).out.length x = 0
  · rw [if_pos he] at h2 ⊢
    exact ⟨he, rfl, rfl, hl⟩
  · rw [if_neg he] at h2; exact absurd h2 he
/-- What was read is read in order. -/
theorem seq_got {zs : List Int} {xs : List AOp} (h : (plays zs [] 0 0 0 xs).e = 0) (n : Nat) : ∃ G, (plays zs [] 0 0 0 xs).got = seqG zs xs n ++ G := by
  have hs := plays_append (xs.take n) (xs.drop n) zs [] 0 0 0
  rw [List.take_append_drop, if_pos (prefix_ok h n)] at hs
  obtain ⟨e, o, G, a, b, j, hf⟩ := plays_form (xs.drop n) (plays zs [] 0 0 0 (xs.take n)).out
  rw [hf] at hs
  by_cases he : e = 0
  · rw [if_pos he] at hs; exact ⟨G, by rw [hs]; rfl⟩
  · rw [if_neg he] at hs; rw [hs] at h; exact absurd h he

/-- A word behind an operation, by its kind. -/
theorem og2 {l : List Int} {x : AOp} (hk : x.k = 2) (he : opE l.length x = 0) {a : Nat} (ha : a < l.length) : (opOut l x).getD a 0 = if x.a = (a : Int) then x.v else l.getD a 0 := by
  unfold opOut; rw [if_pos hk]
  have hp : partB l.length x.a 1 = true := by
    unfold opE at he
    rw [if_pos (by omega)] at he
    cases hp : partB l.length x.a 1
    · rw [hp] at he; exact absurd he (by decide)
    · rfl
  rw [partB_true] at hp
  by_cases h : x.a = (a : Int)
  · rw [if_pos h]
    have : x.a.toNat = a := by omega
    rw [this]; simp [List.getD, ha]
  · rw [if_neg h]
    have : ¬ x.a.toNat = a := by omega
    simp [List.getD, this]
theorem og3 {l : List Int} {x : AOp} (hk : x.k = 3) (he : opE l.length x = 0) {a : Nat} (ha : a < l.length) : ((x.b ≤ (a : Int) ∧ (a : Int) - x.b < x.n) → 0 ≤ x.a + a - x.b ∧ x.a + a - x.b < l.length ∧ (opOut l x).getD a 0 = l.getD (x.a + a - x.b).toNat 0) ∧ (¬ (x.b ≤ (a : Int) ∧ (a : Int) - x.b < x.n) → (opOut l x).getD a 0 = l.getD a 0) ∧ 0 ≤ x.a ∧ x.a ≤ 1000000000 + l.length ∧ 0 ≤ x.b ∧ x.b ≤ l.length := by
  unfold opOut; rw [if_neg (by omega), if_pos hk]
  have hp : (partB l.length x.a x.n && partB l.length x.b x.n) = true := by
    unfold opE at he
    rw [if_neg (by omega), if_pos hk] at he
    cases hp : (partB l.length x.a x.n && partB l.length x.b x.n)
    · rw [hp] at he; exact absurd he (by decide)
    · rfl
  rw [Bool.and_eq_true, partB_true, partB_true] at hp
  have hcl := cut_length l x.a.toNat x.n.toNat (by omega)
  rw [splice_get _ _ _ _ (by omega) ha, hcl]
  refine ⟨fun h => ⟨by omega, by omega, ?_⟩, fun h => ?_, by omega, by omega, by omega, by omega⟩
  · rw [if_pos (by omega), cut_get _ _ _ _ (by omega), show x.a.toNat + (a - x.b.toNat) = (x.a + a - x.b).toNat by omega]
  · rw [if_neg (by omega)]
theorem og4 {l : List Int} {x : AOp} (hk : x.k = 4) (he : opE l.length x = 0) {a : Nat} (ha : a < l.length) : (opOut l x).getD a 0 = (if x.a ≤ (a : Int) ∧ (a : Int) - x.a < x.n then 0 else l.getD a 0) ∧ 0 ≤ x.a ∧ x.a ≤ l.length := by
  unfold opOut; rw [if_neg (by omega), if_neg (by omega), if_pos hk]
  have hp : partB l.length x.a x.n = true := by
    unfold opE at he
    rw [if_neg (by omega), if_neg (by omega), if_pos hk] at he
    cases hp : partB l.length x.a x.n
    · rw [hp] at he; exact absurd he (by decide)
    · rfl
  rw [partB_true] at hp
  refine ⟨?_, by omega, by omega⟩
  rw [splice_get _ _ _ _ (by simp; omega) ha, List.length_replicate]
  by_cases h : x.a ≤ (a : Int) ∧ (a : Int) - x.a < x.n
  · rw [if_pos h, if_pos (by omega)]
    simp [List.getD, show a - x.a.toNat < x.n.toNat by omega]
  · rw [if_neg h, if_neg (by omega)]
theorem og0 {l : List Int} {x : AOp} (h2 : x.k ≠ 2) (h3 : x.k ≠ 3) (h4 : x.k ≠ 4) : opOut l x = l := by
  unfold opOut; rw [if_neg h2, if_neg h3, if_neg h4]

/-- What holds at the head of each round of before: i + 1 operations are left to look at. -/
def BefRel (zs : List Int) (xs : List AOp) (n a0 : Nat) (w : World) (av iv : Value) (wr : World) : Prop :=
  ∃ (m a : Nat), m ≤ n ∧ iv = .int .i64 ((m : Int) - 1) ∧ av = .int .i64 a ∧ a < zs.length ∧ (seqS zs xs n).getD a0 0 = (seqS zs xs m).getD a 0 ∧ Below w.heap.size w wr

set_option maxRecDepth 100000 in
set_option maxHeartbeats 8000000 in
theorem before_some (zs : List Int) (xs : List AOp) (n a0 zb off cap lb lo lc : Nat) (w : World) (hok : (plays zs [] 0 0 0 xs).e = 0) (hn : n ≤ xs.length) (hxl : xs.length ≤ 500) (ha : a0 < zs.length) (hl : zs.length ≤ 1601) (hz : zb < w.heap.size) (hzc : ∀ i : Nat, i < zs.length → w.cell? ⟨zb, off + i, none⟩ = some (.int .u64 (zs.getD i 0))) (hlb : lb < w.heap.size)
    (hx : ∀ (i : Nat) (x : AOp), xs[i]? = some x → w.cell? ⟨lb, lo + i * 5, none⟩ = some (.int .i64 x.k) ∧ w.cell? ⟨lb, lo + i * 5 + 1, none⟩ = some (.int .i64 x.a) ∧ w.cell? ⟨lb, lo + i * 5 + 2, none⟩ = some (.int .i64 x.b) ∧ w.cell? ⟨lb, lo + i * 5 + 3, none⟩ = some (.int .i64 x.n) ∧ w.cell? ⟨lb, lo + i * 5 + 4, none⟩ = some (.int .u64 x.v)) :
    Calls Try.prog 14 #[.slice (some ⟨zb, off, none⟩) zs.length cap, .slice (some ⟨lb, lo, none⟩) xs.length lc, .int .i64 n, .int .i64 a0] w (Ret (.int .u64 ((seqS zs xs n).getD a0 0)) w) := by
  have HX := Lib.hid hx
  have HC := Lib.hid hzc
  have HOK := Lib.hid hok
  clear hx hzc hok
  go_enter Try.func14, Try.ntmps14
  go_wp2_with fail
  go_loopw [3, 9] (fun av iv wr => BefRel zs xs n a0 w av iv wr) (fun _ iv _ => (intOf iv + 1).toNat)
  case atStart => exact ⟨n, a0, Nat.le_refl _, rfl, rfl, ha, rfl, Below.refl _ _⟩
  case round =>
    obtain ⟨m, a, hm, rfl, rfl, haz, hs, hb⟩ := hrel
    have HS := Lib.hid hs
    clear hs
    by_cases hm0 : m = 0
    · subst hm0
      have gc := (hb.cell (p := ⟨zb, off + a, none⟩) hz).trans (HC.out a haz)
      have HV : Hid ((seqS zs xs n).getD a0 0 = zs.getD a 0) := by show _ = _; rw [HS.out, (seq_zero zs xs).1]
      generalize zs.getD a 0 = y at *
      go_wp2
      go_ret
      exact ⟨ri HV.out.symm, hb⟩
    · obtain ⟨i, rfl⟩ : ∃ i, m = i + 1 := ⟨m - 1, by omega⟩
      have hil : i < xs.length := by omega
      obtain ⟨x, hxk⟩ : ∃ x, xs[i]? = some x := ⟨xs[i], by simp [hil]⟩
      obtain ⟨d0, d1, d2, d3, d4⟩ := HX.out i x hxk
      obtain ⟨q1, q2, _, q4⟩ := seq_step HOK.out hxk
      have y0 := (hb.cell (p := ⟨lb, lo + i * 5, none⟩) hlb).trans d0
      have y1 := (hb.cell (p := ⟨lb, lo + i * 5 + 1, none⟩) hlb).trans d1
      have y2 := (hb.cell (p := ⟨lb, lo + i * 5 + 2, none⟩) hlb).trans d2
      have y3 := (hb.cell (p := ⟨lb, lo + i * 5 + 3, none⟩) hlb).trans d3
      have y4 := (hb.cell (p := ⟨lb, lo + i * 5 + 4, none⟩) hlb).trans d4
      have e0 : ((i + 1 : Nat) : Int) - 1 = (i : Int) := by omega
      rw [e0]
      have Q1 := Lib.hid q1
      have Q2 := Lib.hid q2
      have hal : a < (seqS zs xs i).length := by omega
      have hsl : (seqS zs xs i).length ≤ 1601 := by omega
      have Q4 := Lib.hid q4
      clear hxk d0 d1 d2 d3 d4 q1 q2 q4 e0
      have NX : Hid ((seqS zs xs (i + 1)).getD a 0 = (seqS zs xs i).getD a 0 → ∀ wb, Below w.heap.size w wb → BefRel zs xs n a0 w (.int .i64 a) (.int .i64 ((i : Int) - 1)) wb) := fun h wb hwb => ⟨i, a, by omega, rfl, rfl, haz, by rw [HS.out, h], hwb⟩
      have i1 : (0 : Int) ≤ (i : Int) := by omega
      have i2 : (i : Int) < (xs.length : Int) := by omega
      obtain ⟨xk, xa, xb, xn, xv⟩ := x
      simp only at y0 y1 y2 y3 y4
      by_cases k2 : xk = 2
      · subst k2
        have g := og2 rfl Q1.out hal
        simp only at g
        by_cases hxa : xa = (a : Int)
        · subst hxa
          rw [if_pos rfl] at g
          have HV : Hid ((seqS zs xs n).getD a0 0 = xv) := by show _ = _; rw [HS.out, Q2.out, g]
          clear g
          go_wp2
          go_ret
          exact ⟨ri HV.out.symm, below_new hb (Nat.le_refl _) _⟩
        · rw [if_neg hxa] at g
          have b1 : (xa == (a : Int)) = false := by simpa using hxa
          have G := Lib.hid g
          clear g hxa
          go_wp2
          exact ⟨NX.out (by rw [Q2.out]; exact G.out) _ (below_new hb (Nat.le_refl _) _), by simp [intOf]⟩
      · have b2 : (xk == 2) = false := by simpa using k2
        by_cases k3 : xk = 3
        · subst k3
          obtain ⟨o1, o2, o3, o4, o5, o6⟩ := og3 rfl Q1.out hal
          simp only at o1 o2 o3 o4 o5 o6
          by_cases hin : xb ≤ (a : Int) ∧ (a : Int) - xb < xn
          · obtain ⟨p1, p2, p3⟩ := o1 hin
            obtain ⟨h1, h2⟩ := hin
            obtain ⟨a', ha'⟩ := Int.eq_ofNat_of_zero_le p1
            have O := Lib.hid p3
            have HA := Lib.hid ha'
            clear p3 o1 o2 ha'
            go_wp2
            refine ⟨⟨i, a', by omega, rfl, by rw [HA.out], by have := HA.out; have := Q4.out; omega, by rw [HS.out, Q2.out, O.out, HA.out, Int.toNat_natCast], below_new hb (Nat.le_refl _) _⟩, by simp [intOf]⟩
          · have O := Lib.hid (o2 hin)
            have hin' : ¬ xb ≤ (a : Int) ∨ (xb ≤ (a : Int) ∧ ¬ (a : Int) - xb < xn) := by omega
            clear o1 o2 hin
            rcases hin' with h1 | ⟨h1, h2⟩
            all_goals
              go_wp2
              exact ⟨NX.out (by rw [Q2.out]; exact O.out) _ (below_new hb (Nat.le_refl _) _), by simp [intOf]⟩
        · have b3 : (xk == 3) = false := by simpa using k3
          by_cases k4 : xk = 4
          · subst k4
            obtain ⟨g, o3, o4⟩ := og4 rfl Q1.out hal
            simp only at g o3 o4
            by_cases hin : xa ≤ (a : Int) ∧ (a : Int) - xa < xn
            · rw [if_pos hin] at g
              obtain ⟨h1, h2⟩ := hin
              have HV : Hid ((seqS zs xs n).getD a0 0 = 0) := by show _ = _; rw [HS.out, Q2.out, g]
              clear g
              go_wp2
              go_ret
              exact ⟨ri HV.out.symm, below_new hb (Nat.le_refl _) _⟩
            · rw [if_neg hin] at g
              have O := Lib.hid g
              have hin' : ¬ xa ≤ (a : Int) ∨ (xa ≤ (a : Int) ∧ ¬ (a : Int) - xa < xn) := by omega
              clear g hin
              rcases hin' with h1 | ⟨h1, h2⟩
              all_goals
                go_wp2
                exact ⟨NX.out (by rw [Q2.out]; exact O.out) _ (below_new hb (Nat.le_refl _) _), by simp [intOf]⟩
          · have b4 : (xk == 4) = false := by simpa using k4
            have O : Hid (opOut (seqS zs xs i) ⟨xk, xa, xb, xn, xv⟩ = seqS zs xs i) := og0 k2 k3 k4
            clear k2 k3 k4
            go_wp2
            exact ⟨NX.out (by rw [Q2.out, O.out]) _ (below_new hb (Nat.le_refl _) _), by simp [intOf]⟩
end Go.Proofs.Ytmjjbnjedafdaaa
