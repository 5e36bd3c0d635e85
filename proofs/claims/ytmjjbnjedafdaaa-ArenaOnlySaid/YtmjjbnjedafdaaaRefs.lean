/-
  Walks of the reference of the layer arena: part, Get, Set, Copy, Clear, Zero.
-/
import Derived.Test.YtmjjbnjedafdaaaParts
namespace Go.Proofs.Ytmjjbnjedafdaaa
open Go.RowKit

/-- A word of a list that another one was laid over. -/
theorem splice_get (l cs : List Int) (o i : Nat) (h : o + cs.length ≤ l.length) (hi : i < l.length) : (splice l o cs).getD i 0 = if o ≤ i ∧ i < o + cs.length then cs.getD (i - o) 0 else l.getD i 0 := by
  unfold splice
  by_cases h1 : i < o
  · rw [if_neg (by omega), List.getD, List.getElem?_append_left (by rw [List.length_take]; omega), List.getElem?_take_of_lt h1]; rfl
  · rw [List.getD, List.getElem?_append_right (by rw [List.length_take]; omega), List.length_take, Nat.min_eq_left (by omega)]
    by_cases h2 : i < o + cs.length
    · rw [if_pos ⟨by omega, h2⟩, List.getElem?_append_left (by omega)]; rfl
    · rw [if_neg (by omega), List.getElem?_append_right (by omega), List.getElem?_drop, show o + cs.length + (i - o - cs.length) = i by omega]; rfl
theorem ext_getD {a b : List Int} (h : a.length = b.length) (hg : ∀ i, i < a.length → a.getD i 0 = b.getD i 0) : a = b :=
  List.ext_getElem h (fun i h1 h2 => by have := hg i h1; simpa [List.getD, h1, h2] using this)
theorem splice_step (l cs : List Int) (o j : Nat) (h : o + cs.length ≤ l.length) (hj : j < cs.length) : splice l o (cs.take (j + 1)) = (splice l o (cs.take j)).set (o + j) (cs.getD j 0) := by
  have e1 : (cs.take (j + 1)).length = j + 1 := by rw [List.length_take]; omega
  have e2 : (cs.take j).length = j := by rw [List.length_take]; omega
  refine ext_getD (by rw [List.length_set, length_splice _ _ _ (by omega), length_splice _ _ _ (by omega)]) (fun i hi => ?_)
  rw [length_splice _ _ _ (by omega)] at hi
  have hset : ((splice l o (cs.take j)).set (o + j) (cs.getD j 0)).getD i 0 = if o + j = i then cs.getD j 0 else (splice l o (cs.take j)).getD i 0 := by
    have hl : i < (splice l o (cs.take j)).length := by rw [length_splice _ _ _ (by omega)]; exact hi
    by_cases he : o + j = i
    · subst he; simp [List.getD, hl]
    · simp [List.getD, he]
  rw [hset, splice_get _ _ _ _ (by omega) hi, splice_get _ _ _ _ (by omega) hi, e1, e2]
  by_cases he : o + j = i
  · rw [if_pos he, if_pos (by omega)]
    have : i - o = j := by omega
    rw [this]; simp [List.getD]
  · rw [if_neg he]
    by_cases h1 : o ≤ i ∧ i < o + j
    · rw [if_pos (by omega), if_pos h1]
      simp [List.getD, show i - o < j + 1 by omega, show i - o < j by omega]
    · rw [if_neg (by omega), if_neg h1]

def Row (w : World) (g : Nat) (rest : List Value) (l : List Int) (W : World) : Prop := W.heap[g]? = some (.cells (us l ++ rest).toArray 32 (0, 0)) ∧ Below w.heap.size w W ∧ w.heap.size ≤ g
theorem row_set {w W : World} {g i : Nat} {rest : List Value} {l : List Int} (h : Row w g rest l W) (hi : i < l.length) (x : Int) : Row w g rest (l.set i x) (W.setCell ⟨g, i, none⟩ (.int .u64 x)) :=
  ⟨by rw [blk_set h.1, us_set _ _ _ _ hi], below_set h.2.1 h.2.2 _, h.2.2⟩
theorem row_own {w W : World} {g : Nat} {rest : List Value} {l : List Int} (h : Row w g rest l W) (hm : l.length + rest.length ≤ maxLen) : Own w (.slice (some ⟨g, 0, none⟩) l.length (l.length + rest.length)) l W := by
  refine ⟨by rw [us_length, Nat.mul_one], .inr ⟨g, _, (us l ++ rest).toArray, rfl, h.2.2, h.1, by omega, hm, by simp [us_length], ?_⟩⟩
  rw [Nat.mul_one, ← us_length l, List.take_left]
theorem row_cell {w W : World} {g i : Nat} {rest : List Value} {l : List Int} (h : Row w g rest l W) (hi : i < l.length) : W.cell? ⟨g, i, none⟩ = some (.int .u64 (l.getD i 0)) ∧ W.frozen? ⟨g, i, none⟩ = false ∧ g < W.heap.size :=
  ⟨by rw [blk_cell h.1, List.getElem?_append_left (by rw [us_length]; exact hi), us_get _ _ hi], blk_free h.1 _, lt_of_block h.1⟩

theorem clone_run (zs : List Int) (zb off cap : Nat) (w : World) (h0 : 0 < zs.length) (hl : zs.length ≤ 100000) (hz : zb < w.heap.size) (hc : ∀ i : Nat, i < zs.length → w.cell? ⟨zb, off + i, none⟩ = some (.int .u64 (zs.getD i 0))) :
    ∃ (g : Nat) (rest : List Value) (W : World), (Builtin.append_ #[22, 22] 22 #[.slice (some ⟨w.heap.size, 0, none⟩) 0 0, .slice (some ⟨zb, off, none⟩) zs.length cap]).run Try.prog (w.alloc (.cells #[] 32)) = .ok (.slice (some ⟨g, 0, none⟩) zs.length (zs.length + rest.length)) W ∧ zs.length + rest.length ≤ maxLen ∧ Row w g rest zs W := by
  obtain ⟨i0, hi0, hz0, hz1, hz2⟩ := info_parts info32
  obtain ⟨v', W, r1, r2, r3, _⟩ := run_append_own (P := Try.prog) (w.alloc (.cells #[] 32)) w.heap.size 22 22 32 i0 (.int .u64 0) 1 8 Try.underlying22 hi0 hz0 hz1 hz2 rfl (by decide) (.slice (some ⟨w.heap.size, 0, none⟩) 0 0) 0 [] ⟨rfl, .inr ⟨w.heap.size, 0, #[], rfl, Nat.le_refl _, (MapKept.heap_alloc w _).1, Nat.le_refl _, Nat.zero_le _, rfl, rfl⟩⟩ ⟨zb, off, none⟩ zs.length cap (us zs) (by rw [us_length, Nat.mul_one]) (fun j u hj => by
    have hj' : j < zs.length := by have := (List.getElem?_eq_some_iff.1 hj).1; rw [us_length] at this; exact this
    rw [us_get _ _ hj'] at hj
    rw [Go.WideShapes.add_plain, World.cell?_alloc_past _ _ _ hz, hc j hj']; exact hj) (fun u hu => by obtain ⟨x, _, rfl⟩ := List.mem_map.1 hu; rfl) (by unfold maxLen; omega) (by omega) (by simp)
  rw [Nat.zero_add, List.nil_append] at r2
  have hb : Below w.heap.size w W := (new_below w _).grown r3 (by simp) (by simp [Value.ownBlock])
  obtain ⟨g, rest, e1, e2, e3, e4, e5, e6⟩ := cloned_of h0 r2 hb
  have : v' = .slice (some ⟨g, 0, none⟩) zs.length (zs.length + rest.length) := by simpa using e1
  subst this
  exact ⟨g, rest, W, r1, e4, e5, hb, e2⟩

set_option maxHeartbeats 400000 in
theorem rpart_val {s : Option Addr} {len cap : Nat} {a n : Int} {b : Bool} (w : World) (h4 : len ≤ 1601) (h : partB len a n = b) :
    Calls Try.prog 37 #[.slice s len cap, .int .i64 a, .int .i64 n] w fun e w' => e = .returned (.bool b) ∧ w = w' := by
  cases b
  · rw [partB_false] at h
    have h' : a < 1 ∨ (1 ≤ a ∧ (len : Int) < a) ∨ (1 ≤ a ∧ a ≤ (len : Int) ∧ n < 0) ∨ (1 ≤ a ∧ a ≤ (len : Int) ∧ 0 ≤ n ∧ (len : Int) - a < n) := by omega
    clear h
    rcases h' with h1 | ⟨h1, h2⟩ | ⟨h1, h2, h3⟩ | ⟨h1, h2, h3, h5⟩
    · have t1 : ¬ 1 ≤ a := by omega
      go_enter Try.func37, Try.ntmps37
      go_wp2
      go_ret
      exact ⟨rfl, rfl⟩
    · have t1 : ¬ a ≤ (len : Int) := by omega
      go_enter Try.func37, Try.ntmps37
      go_wp2
      go_ret
      exact ⟨rfl, rfl⟩
    · have t1 : ¬ 0 ≤ n := by omega
      go_enter Try.func37, Try.ntmps37
      go_wp2
      go_ret
      exact ⟨rfl, rfl⟩
    · have t1 : ¬ n ≤ (len : Int) - a := by omega
      go_enter Try.func37, Try.ntmps37
      go_wp2
      go_ret
      exact ⟨rfl, rfl⟩
  · obtain ⟨h1, h2, h3, h5⟩ := partB_true.1 h
    clear h
    go_enter Try.func37, Try.ntmps37
    go_wp2
    go_ret
    exact ⟨rfl, rfl⟩

theorem one_err {zs : List Int} {x : AOp} {e : Int} (hc : chkA zs = 0) (he : opE zs.length x = e) (h0 : e ≠ 0) : playR zs [x] = ⟨[], [], 0, 0, 0, e⟩ := by
  rw [playR_ok hc (by simp), plays, he, if_neg h0]; rfl
theorem one_ok {zs : List Int} {x : AOp} (hc : chkA zs = 0) (he : opE zs.length x = 0) : playR zs [x] = ⟨opOut zs x, opGot zs x, opR x, opW x, 0, 0⟩ := by
  rw [playR_ok hc (by simp), plays, if_pos he, plays, List.nil_append, Int.zero_add, Int.zero_add]
end Go.Proofs.Ytmjjbnjedafdaaa
