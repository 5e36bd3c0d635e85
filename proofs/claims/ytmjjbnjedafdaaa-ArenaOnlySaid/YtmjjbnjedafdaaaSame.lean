/-
  Walks of the reference of the layer arena: Same, Ints.
-/
import Derived.Test.YtmjjbnjedafdaaaOne
namespace Go.Proofs.Ytmjjbnjedafdaaa
open Go.RowKit

/-- What a slice of numbers reads as. -/
def Nums (w : World) (v : Value) (zs : List Int) : Prop :=
  (zs = [] ∧ ∃ (a : Option Addr) (cap : Nat), v = .slice a 0 cap) ∨ (0 < zs.length ∧ ∃ zb off cap : Nat, v = .slice (some ⟨zb, off, none⟩) zs.length cap ∧ zs.length ≤ cap ∧ zb < w.heap.size ∧ ∀ i : Nat, i < zs.length → w.cell? ⟨zb, off + i, none⟩ = some (.int .i64 (zs.getD i 0)))

set_option maxHeartbeats 400000 in
theorem same_lens (a b : Option Addr) (n m c d : Nat) (w : World) (h : ¬ n = m) : Calls Try.prog 13 #[.slice a n c, .slice b m d] w (Ret (.bool false) w) := by
  have t1 : ((n : Int) != (m : Int)) = true := by simp; omega
  go_enter Try.func13, Try.ntmps13
  go_wp2
  go_ret
  exact ⟨rfl, Below.refl _ _⟩
set_option maxHeartbeats 400000 in
theorem same_none (a b : Option Addr) (c d : Nat) (w : World) : Calls Try.prog 13 #[.slice a 0 c, .slice b 0 d] w (Ret (.bool true) w) := by
  go_enter Try.func13, Try.ntmps13
  go_wp2_with fail
  refine wp_loop_rounds 1 ?_
  rw [rounds_succ]
  go_wp2
  go_ret
  exact ⟨rfl, Below.refl _ _⟩
set_option maxHeartbeats 2000000 in
theorem same_some (zs ys : List Int) (zb zo zc yb yo yc : Nat) (w : World) (hl : ys.length = zs.length) (hm : zs.length ≤ 1000000) (hz : zb < w.heap.size) (hy : yb < w.heap.size) (hcz : ∀ i : Nat, i < zs.length → w.cell? ⟨zb, zo + i, none⟩ = some (.int .u64 (zs.getD i 0))) (hcy : ∀ i : Nat, i < zs.length → w.cell? ⟨yb, yo + i, none⟩ = some (.int .u64 (ys.getD i 0))) :
    Calls Try.prog 13 #[.slice (some ⟨zb, zo, none⟩) zs.length zc, .slice (some ⟨yb, yo, none⟩) zs.length yc] w (Ret (.bool (decide (zs = ys))) w) := by
  have HZ := Lib.hid hcz
  have HY := Lib.hid hcy
  have HL := Lib.hid hl
  clear hcz hcy hl
  go_enter Try.func13, Try.ntmps13
  go_wp2_with fail
  go_loopw [5] (fun i wr => ∃ k : Nat, k ≤ zs.length ∧ i = .int .i64 k ∧ Hid (∀ j, j < k → zs.getD j 0 = ys.getD j 0) ∧ Below w.heap.size w wr) (fun i _ => zs.length - (intOf i).toNat)
  case atStart => exact ⟨0, Nat.zero_le _, rfl, (fun j hj => by omega : ∀ j, j < 0 → zs.getD j 0 = ys.getD j 0), Below.refl _ _⟩
  case round =>
    obtain ⟨k, hk, rfl, HE, hb⟩ := hrel
    by_cases hkl : k < zs.length
    · have g1 := (hb.cell (p := ⟨zb, zo + k, none⟩) hz).trans (HZ.out k hkl)
      have g2 := (hb.cell (p := ⟨yb, yo + k, none⟩) hy).trans (HY.out k hkl)
      have i1 : (0 : Int) ≤ (k : Int) := by omega
      have i2 : (k : Int) < (zs.length : Int) := by omega
      generalize hx : zs.getD k 0 = x at *
      generalize hxy : ys.getD k 0 = y at *
      have HX := Lib.hid hx
      have HXY := Lib.hid hxy
      clear hx hxy
      by_cases he : x = y
      · subst he
        go_wp2_with fail
        go_quiet (fail)
        go_wp2
        refine ⟨⟨k + 1, by omega, by go_num, ?_, below_drewN hb _⟩, by simp [intOf]; omega⟩
        intro j hj
        by_cases hjk : j = k
        · rw [hjk, HX.out, HXY.out]
        · exact HE.out j (by omega)
      · have t1 : (x != y) = true := by simpa using he
        have HN : Hid (¬ zs = ys) := fun h => he (by rw [← HX.out, ← HXY.out, h])
        clear he
        go_wp2_with fail
        go_quiet (fail)
        go_wp2
        go_ret
        exact ⟨rb (by rw [decide_eq_false HN.out]), below_drewN hb _⟩
    · have HN : Hid (zs = ys) := List.ext_getElem (by rw [HL.out]) (fun j h1 h2 => by
        have := HE.out j (by omega)
        simpa [List.getD, h1, h2] using this)
      go_wp2
      go_ret
      exact ⟨rb (by rw [decide_eq_true HN.out]), hb⟩
theorem same_any (zs ys : List Int) (v u : Value) (w : World) (hv : Words w v zs) (hu : Words w u ys) (hm : zs.length ≤ 1000000) : Calls Try.prog 13 #[v, u] w (Ret (.bool (decide (zs = ys))) w) := by
  rcases hv with ⟨rfl, a, c, rfl⟩ | ⟨h0, zb, zo, zc, rfl, _, hz, hcz⟩
  · rcases hu with ⟨rfl, b, d, rfl⟩ | ⟨h1, yb, yo, yc, rfl, _, hy, hcy⟩
    · exact same_none a b c d w
    · rw [decide_eq_false (by intro h; rw [← h] at h1; simp at h1)]
      exact same_lens _ _ _ _ _ _ w (by omega)
  · rcases hu with ⟨rfl, b, d, rfl⟩ | ⟨h1, yb, yo, yc, rfl, _, hy, hcy⟩
    · rw [decide_eq_false (by intro h; rw [h] at h0; simp at h0)]
      exact same_lens _ _ _ _ _ _ w (by omega)
    · by_cases hl : ys.length = zs.length
      · rw [hl]
        exact same_some zs ys zb zo zc yb yo yc w hl hm hz hy hcz (fun i hi => hcy i (by omega))
      · rw [decide_eq_false (by intro h; rw [h] at hl; exact hl rfl)]
        exact same_lens _ _ _ _ _ _ w (by omega)

set_option maxHeartbeats 400000 in
theorem ints_lens (a b : Option Addr) (n m c d : Nat) (w : World) (h : ¬ n = m) : Calls Try.prog 24 #[.slice a n c, .slice b m d] w (Ret (.bool false) w) := by
  have t1 : ((n : Int) != (m : Int)) = true := by simp; omega
  go_enter Try.func24, Try.ntmps24
  go_wp2
  go_ret
  exact ⟨rfl, Below.refl _ _⟩
set_option maxHeartbeats 400000 in
theorem ints_none (a b : Option Addr) (c d : Nat) (w : World) : Calls Try.prog 24 #[.slice a 0 c, .slice b 0 d] w (Ret (.bool true) w) := by
  go_enter Try.func24, Try.ntmps24
  go_wp2_with fail
  refine wp_loop_rounds 1 ?_
  rw [rounds_succ]
  go_wp2
  go_ret
  exact ⟨rfl, Below.refl _ _⟩
set_option maxHeartbeats 2000000 in
theorem ints_some (zs ys : List Int) (zb zo zc yb yo yc : Nat) (w : World) (hl : ys.length = zs.length) (hm : zs.length ≤ 1000000) (hz : zb < w.heap.size) (hy : yb < w.heap.size) (hcz : ∀ i : Nat, i < zs.length → w.cell? ⟨zb, zo + i, none⟩ = some (.int .i64 (zs.getD i 0))) (hcy : ∀ i : Nat, i < zs.length → w.cell? ⟨yb, yo + i, none⟩ = some (.int .i64 (ys.getD i 0))) :
    Calls Try.prog 24 #[.slice (some ⟨zb, zo, none⟩) zs.length zc, .slice (some ⟨yb, yo, none⟩) zs.length yc] w (Ret (.bool (decide (zs = ys))) w) := by
  have HZ := Lib.hid hcz
  have HY := Lib.hid hcy
  have HL := Lib.hid hl
  clear hcz hcy hl
  go_enter Try.func24, Try.ntmps24
  go_wp2_with fail
  go_loopw [5] (fun i wr => ∃ k : Nat, k ≤ zs.length ∧ i = .int .i64 k ∧ Hid (∀ j, j < k → zs.getD j 0 = ys.getD j 0) ∧ Below w.heap.size w wr) (fun i _ => zs.length - (intOf i).toNat)
  case atStart => exact ⟨0, Nat.zero_le _, rfl, (fun j hj => by omega : ∀ j, j < 0 → zs.getD j 0 = ys.getD j 0), Below.refl _ _⟩
  case round =>
    obtain ⟨k, hk, rfl, HE, hb⟩ := hrel
    by_cases hkl : k < zs.length
    · have g1 := (hb.cell (p := ⟨zb, zo + k, none⟩) hz).trans (HZ.out k hkl)
      have g2 := (hb.cell (p := ⟨yb, yo + k, none⟩) hy).trans (HY.out k hkl)
      have i1 : (0 : Int) ≤ (k : Int) := by omega
      have i2 : (k : Int) < (zs.length : Int) := by omega
      generalize hx : zs.getD k 0 = x at *
      generalize hxy : ys.getD k 0 = y at *
      have HX := Lib.hid hx
      have HXY := Lib.hid hxy
      clear hx hxy
      by_cases he : x = y
      · subst he
        go_wp2_with fail
        go_quiet (fail)
        go_wp2
        refine ⟨⟨k + 1, by omega, by go_num, ?_, below_drewN hb _⟩, by simp [intOf]; omega⟩
        intro j hj
        by_cases hjk : j = k
        · rw [hjk, HX.out, HXY.out]
        · exact HE.out j (by omega)
      · have t1 : (x != y) = true := by simpa using he
        have HN : Hid (¬ zs = ys) := fun h => he (by rw [← HX.out, ← HXY.out, h])
        clear he
        go_wp2_with fail
        go_quiet (fail)
        go_wp2
        go_ret
        exact ⟨rb (by rw [decide_eq_false HN.out]), below_drewN hb _⟩
    · have HN : Hid (zs = ys) := List.ext_getElem (by rw [HL.out]) (fun j h1 h2 => by
        have := HE.out j (by omega)
        simpa [List.getD, h1, h2] using this)
      go_wp2
      go_ret
      exact ⟨rb (by rw [decide_eq_true HN.out]), hb⟩
theorem ints_any (zs ys : List Int) (v u : Value) (w : World) (hv : Nums w v zs) (hu : Nums w u ys) (hm : zs.length ≤ 1000000) : Calls Try.prog 24 #[v, u] w (Ret (.bool (decide (zs = ys))) w) := by
  rcases hv with ⟨rfl, a, c, rfl⟩ | ⟨h0, zb, zo, zc, rfl, _, hz, hcz⟩
  · rcases hu with ⟨rfl, b, d, rfl⟩ | ⟨h1, yb, yo, yc, rfl, _, hy, hcy⟩
    · exact ints_none a b c d w
    · rw [decide_eq_false (by intro h; rw [← h] at h1; simp at h1)]
      exact ints_lens _ _ _ _ _ _ w (by omega)
  · rcases hu with ⟨rfl, b, d, rfl⟩ | ⟨h1, yb, yo, yc, rfl, _, hy, hcy⟩
    · rw [decide_eq_false (by intro h; rw [h] at h0; simp at h0)]
      exact ints_lens _ _ _ _ _ _ w (by omega)
    · by_cases hl : ys.length = zs.length
      · rw [hl]
        exact ints_some zs ys zb zo zc yb yo yc w hl hm hz hy hcz (fun i hi => hcy i (by omega))
      · rw [decide_eq_false (by intro h; rw [h] at hl; exact hl rfl)]
        exact ints_lens _ _ _ _ _ _ w (by omega)
end Go.Proofs.Ytmjjbnjedafdaaa
