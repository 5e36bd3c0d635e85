/-
  Plain: what one operation changes, and the places at which two arenas differ; a row of the call's own, opened; append to an empty row.
-/
import Derived.Test.YtmjjbnjedafdaaaBefore
namespace Go.Proofs.Ytmjjbnjedafdaaa
open Go.RowKit Go.Joins Go.Deep

theorem one_set2 (zs : List Int) (a b n u : Int) : playR zs [⟨2, a, 0, 0, u⟩] = playR zs [⟨2, a, b, n, u⟩] := by
  simp [playR, plays, opE, opOut, opGot, opR, opW]
theorem one_copy2 (zs : List Int) (a b n u : Int) : playR zs [⟨3, a, b, n, 0⟩] = playR zs [⟨3, a, b, n, u⟩] := by
  simp [playR, plays, opE, opOut, opGot, opR, opW]
theorem one_clear2 (zs : List Int) (a b n u : Int) : playR zs [⟨4, a, 0, n, 0⟩] = playR zs [⟨4, a, b, n, u⟩] := by
  simp [playR, plays, opE, opOut, opGot, opR, opW]

theorem one_bad {zs : List Int} {x : AOp} (h : (playR zs [x]).e ≠ 0) : ∃ e : Int, e ≠ 0 ∧ playR zs [x] = ⟨[], [], 0, 0, 0, e⟩ := by
  by_cases hc : chkA zs = 0
  · by_cases he : opE zs.length x = 0
    · rw [one_ok hc he] at h; exact absurd rfl h
    · exact ⟨_, he, one_err hc rfl he⟩
  · rw [playR_no _ hc]; exact ⟨_, hc, rfl⟩
theorem one_good {zs : List Int} {x : AOp} (h : (playR zs [x]).e = 0) : chkA zs = 0 ∧ opE zs.length x = 0 ∧ playR zs [x] = ⟨opOut zs x, opGot zs x, opR x, opW x, 0, 0⟩ := by
  by_cases hc : chkA zs = 0
  · by_cases he : opE zs.length x = 0
    · exact ⟨hc, he, one_ok hc he⟩
    · rw [one_err hc rfl he] at h; exact absurd h he
  · rw [playR_no _ hc] at h; exact absurd h hc

/-- Where an operation changes a word. -/
theorem chg2 {zs : List Int} {a b n u : Int} (he : opE zs.length ⟨2, a, b, n, u⟩ = 0) {i : Nat} (hi : i < zs.length) (hd : zs.getD i 0 ≠ (opOut zs ⟨2, a, b, n, u⟩).getD i 0) : a = (i : Int) := by
  have h := og2 (x := ⟨2, a, b, n, u⟩) rfl he hi
  by_cases h1 : a = (i : Int)
  · exact h1
  · rw [if_neg (by exact h1)] at h; exact absurd h.symm hd
theorem chg3 {zs : List Int} {a b n u : Int} (he : opE zs.length ⟨3, a, b, n, u⟩ = 0) {i : Nat} (hi : i < zs.length) (hd : zs.getD i 0 ≠ (opOut zs ⟨3, a, b, n, u⟩).getD i 0) : b ≤ (i : Int) ∧ (i : Int) - b < n := by
  have h := (og3 (x := ⟨3, a, b, n, u⟩) rfl he hi).2.1
  by_cases h1 : b ≤ (i : Int) ∧ (i : Int) - b < n
  · exact h1
  · exact absurd (h h1).symm hd
theorem chg4 {zs : List Int} {a b n u : Int} (he : opE zs.length ⟨4, a, b, n, u⟩ = 0) {i : Nat} (hi : i < zs.length) (hd : zs.getD i 0 ≠ (opOut zs ⟨4, a, b, n, u⟩).getD i 0) : a ≤ (i : Int) ∧ (i : Int) - a < n := by
  have h := (og4 (x := ⟨4, a, b, n, u⟩) rfl he hi).1
  by_cases h1 : a ≤ (i : Int) ∧ (i : Int) - a < n
  · exact h1
  · rw [if_neg (by exact h1)] at h; exact absurd h.symm hd
theorem bd2 {len : Nat} {a b n u : Int} (he : opE len ⟨2, a, b, n, u⟩ = 0) : 1 ≤ a ∧ a ≤ (len : Int) := by
  cases hp : partB len a 1
  · simp [opE, hp] at he
  · rw [partB_true] at hp; omega
theorem bd3 {len : Nat} {a b n u : Int} (he : opE len ⟨3, a, b, n, u⟩ = 0) : 1 ≤ b ∧ b ≤ (len : Int) ∧ 0 ≤ n ∧ n ≤ (len : Int) := by
  cases hp : (partB len a n && partB len b n)
  · simp [opE, hp] at he
  · rw [Bool.and_eq_true, partB_true, partB_true] at hp; omega
theorem bd4 {len : Nat} {a b n u : Int} (he : opE len ⟨4, a, b, n, u⟩ = 0) : 1 ≤ a ∧ a ≤ (len : Int) ∧ 0 ≤ n ∧ n ≤ (len : Int) := by
  cases hp : partB len a n
  · simp [opE, hp] at he
  · rw [partB_true] at hp; omega

/-- The places at which two arenas differ: they ascend. -/
theorem difTo_at {zs ys : List Int} {k i : Nat} (hi : i < (difTo zs ys k).length) : ∃ a : Nat, (difTo zs ys k).getD i 0 = (a : Int) ∧ a < k ∧ zs.getD a 0 ≠ ys.getD a 0 := by
  unfold difTo at hi ⊢
  rw [List.length_map] at hi
  have hm : ((List.range k).filter (fun a => decide (zs.getD a 0 ≠ ys.getD a 0)))[i] ∈ (List.range k).filter (fun a => decide (zs.getD a 0 ≠ ys.getD a 0)) := List.getElem_mem hi
  rw [List.mem_filter, List.mem_range] at hm
  refine ⟨_, ?_, hm.1, by simpa using hm.2⟩
  rw [List.getD, List.getElem?_map, List.getElem?_eq_getElem hi]; rfl
theorem difTo_up {zs ys : List Int} {k i : Nat} (hi : i + 1 < (difTo zs ys k).length) : (difTo zs ys k).getD i 0 < (difTo zs ys k).getD (i + 1) 0 := by
  unfold difTo at hi ⊢
  rw [List.length_map] at hi
  have hp : List.Pairwise (· < ·) ((List.range k).filter (fun a => decide (zs.getD a 0 ≠ ys.getD a 0))) := List.Pairwise.filter _ List.pairwise_lt_range
  have := List.pairwise_iff_getElem.1 hp i (i + 1) (by omega) hi (by omega)
  rw [List.getD, List.getD, List.getElem?_map, List.getElem?_map, List.getElem?_eq_getElem hi, List.getElem?_eq_getElem (show i < _ by omega)]
  show (((List.range k).filter (fun a => decide (zs.getD a 0 ≠ ys.getD a 0)))[i] : Int) < _
  exact Int.ofNat_lt.2 this

/-- What holds at a place of the list of differences, as the law asks. -/
structure Place (zs ys : List Int) (low n x : Int) : Prop where
  lo : 0 ≤ x
  hi : x < (zs.length : Int)
  ge : low ≤ x
  lt : x < low + n
  ne : zs.getD x.toNat 0 ≠ ys.getD x.toNat 0
theorem place_of {zs ys : List Int} {low n : Int} (hw : ∀ i : Nat, i < zs.length → zs.getD i 0 ≠ ys.getD i 0 → low ≤ (i : Int) ∧ (i : Int) - low < n) {i : Nat} (hi : i < (difTo zs ys zs.length).length) : Place zs ys low n ((difTo zs ys zs.length).getD i 0) := by
  obtain ⟨a, h1, h2, h3⟩ := difTo_at hi
  rw [h1]
  have := hw a h2 h3
  exact ⟨by omega, by omega, by omega, by omega, by rw [Int.toNat_natCast]; exact h3⟩

theorem own_row {w w' : World} {v : Value} {l : List Int} {n : Nat} (h : Own w v l w') (hn : l.length = n) (h0 : 0 < n) : ∃ g cap, v = .slice (some ⟨g, 0, none⟩) n cap ∧ w.heap.size ≤ g ∧ g < w'.heap.size ∧ (∀ i, i < n → w'.cell? ⟨g, i, none⟩ = some (.int .u64 (l.getD i 0))) ∧ ∀ i, w'.frozen? ⟨g, i, none⟩ = false := by
  subst hn
  obtain ⟨h1, ⟨rfl, h2⟩ | ⟨g, cap, cur, rfl, e2, e3, e4, e5, e6, e7⟩⟩ := h
  · omega
  · refine ⟨g, cap, rfl, e2, lt_of_block e3, fun i hi => ?_, fun i => by simp [World.frozen?, e3]⟩
    have hc : w'.cell? ⟨g, i, none⟩ = cur.toList[i]? := by simp [World.cell?, e3]
    rw [hc, ← List.getElem?_take_of_lt (j := l.length) hi, ← Nat.mul_one l.length, e7, us_get _ _ hi]
theorem own_any {w w' : World} {v : Value} {l : List Int} (h : Own w v l w') : v = .slice none 0 0 ∨ ∃ g cap, v = .slice (some ⟨g, 0, none⟩) l.length cap := by
  obtain ⟨h1, ⟨rfl, h2⟩ | ⟨g, cap, cur, rfl, e2⟩⟩ := h
  · exact .inl rfl
  · exact .inr ⟨g, cap, rfl⟩
theorem ownI_any {w w' : World} {v : Value} {l : List Int} (h : OwnI w v l w') : ∃ (la : Option Addr) (lc : Nat), v = .slice la l.length lc ∧ (0 < l.length → ∃ g, la = some ⟨g, 0, none⟩ ∧ g < w'.heap.size ∧ ∀ i, i < l.length → w'.cell? ⟨g, i, none⟩ = some (.int .i64 (l.getD i 0))) := by
  obtain ⟨h1, ⟨rfl, h2⟩ | ⟨g, cap, cur, rfl, e2, e3, e4, e5, e6, e7⟩⟩ := h
  · exact ⟨none, 0, by rw [h2], fun h => by omega⟩
  · refine ⟨_, cap, rfl, fun _ => ⟨g, rfl, lt_of_block e3, fun i hi => ?_⟩⟩
    have hc : w'.cell? ⟨g, i, none⟩ = cur.toList[i]? := by simp [World.cell?, e3]
    rw [hc, ← List.getElem?_take_of_lt (j := l.length) hi, ← Nat.mul_one l.length, e7]
    simp [is, List.getD, hi]
theorem words_store {W : World} {b o n c : Nat} {zs : List Int} {p : Addr} (h : Words W (.slice (some ⟨b, o, none⟩) n c) zs) (hne : b ≠ p.block) (u : Value) : Words (W.setCell p u) (.slice (some ⟨b, o, none⟩) n c) zs := by
  rcases h with h | ⟨h0, zb, off, cap, e, h1, h2, h3⟩
  · exact .inl h
  · simp at e
    obtain ⟨⟨rfl, rfl⟩, rfl, rfl⟩ := e
    refine .inr ⟨h0, _, _, _, rfl, h1, by simpa using h2, fun i hi => ?_⟩
    rw [← h3 i hi]
    simp only [World.cell?]
    rw [Below.heap_setCell _ _ _ _ (by simpa using hne)]

/-- A slice of words as a caller hands it in. -/
def Fine (v : Value) : Prop := v = .slice none 0 0 ∨ ∃ (a : Addr) (n c : Nat), v = .slice (some a) n c
theorem app_words {W : World} {v : Value} {zs : List Int} {b : Nat} (hb : b = W.heap.size) (hv : Words W v zs) (hf : Fine v) (hl : zs.length ≤ 100000) :
    ∃ v' W', (Builtin.append_ #[22, 22] 22 #[.slice (some ⟨b, 0, none⟩) 0 0, v]).run Try.prog (W.alloc (.cells #[] 32)) = .ok v' W' ∧ Own W v' zs W' ∧ Below W.heap.size W W' := by
  subst hb
  obtain ⟨i0, hi0, hz0, hz1, hz2⟩ := info_parts info32
  have hown : (W.alloc (.cells #[] 32)).ownsRow W.heap.size 32 1 (.slice (some ⟨W.heap.size, 0, none⟩) 0 0) 0 [] := ⟨rfl, .inr ⟨W.heap.size, 0, #[], rfl, Nat.le_refl _, (MapKept.heap_alloc W _).1, Nat.le_refl _, Nat.zero_le _, rfl, rfl⟩⟩
  have key : ∀ (a : Addr) (n c : Nat), v = .slice (some a) n c → n = zs.length → (∀ j u, (us zs)[j]? = some u → (W.alloc (.cells #[] 32)).cell? (a.add j) = some u) → ∃ v' W', (Builtin.append_ #[22, 22] 22 #[.slice (some ⟨W.heap.size, 0, none⟩) 0 0, v]).run Try.prog (W.alloc (.cells #[] 32)) = .ok v' W' ∧ Own W v' zs W' ∧ Below W.heap.size W W' := by
    intro a n c hva hn hcell
    subst hva
    subst hn
    obtain ⟨v', W', r1, r2, r3, _⟩ := run_append_own (P := Try.prog) (W.alloc (.cells #[] 32)) W.heap.size 22 22 32 i0 (.int .u64 0) 1 8 Try.underlying22 hi0 hz0 hz1 hz2 rfl (by decide) (.slice (some ⟨W.heap.size, 0, none⟩) 0 0) 0 [] hown a zs.length c (us zs) (by rw [us_length, Nat.mul_one]) hcell (fun u hu => by obtain ⟨x, _, rfl⟩ := List.mem_map.1 hu; rfl) (by unfold maxLen; omega) (by omega) (by simp)
    rw [Nat.zero_add, List.nil_append] at r2
    exact ⟨v', W', r1, r2, (new_below W _).grown r3 (by simp) (by simp [Value.ownBlock])⟩
  rcases hf with rfl | ⟨a, n, c, rfl⟩
  · have hz : zs = [] := by
      rcases hv with h | ⟨h0, zb, off, cap, e, _⟩
      · exact h.1
      · simp at e
    subst hz
    exact ⟨_, _, run_append_owned_none (P := Try.prog) (w := W.alloc (.cells #[] 32)) W.heap.size 22 22 32 i0 1 Try.underlying22 hi0 _ _ _ hown, hown, new_below W _⟩
  · rcases hv with ⟨rfl, a', cap, e⟩ | ⟨h0, zb, off, cap, e, h1, hz, hc⟩
    · simp at e
      obtain ⟨rfl, rfl, rfl⟩ := e
      exact key a 0 c rfl rfl (fun j u hj => by simp [us] at hj)
    · simp at e
      obtain ⟨rfl, rfl, rfl⟩ := e
      exact key _ _ _ rfl rfl (fun j u hj => by
        have hj' : j < zs.length := by have := (List.getElem?_eq_some_iff.1 hj).1; rw [us_length] at this; exact this
        rw [us_get _ _ hj'] at hj
        rw [Go.WideShapes.add_plain, World.cell?_alloc_past _ _ _ hz, hc j hj']; exact hj)
theorem ops_one (W : World) (k a b n u : Int) (hk : (Lit.int .i64 k).wf = true) (g : Nat) (hg : g = W.heap.size) : OpsAt (W.alloc (.cells #[.int .i64 k, .int .i64 a, .int .i64 b, .int .i64 n, .int .u64 u] 35)) (.slice (some ⟨g, 0, none⟩) 1 1) [⟨k, a, b, n, u⟩] := by
  subst hg
  refine ⟨fun y hy => by simp at hy; subst hy; exact hk, .inr ⟨by simp, W.heap.size, 0, 1, rfl, by simp, by simp, fun i y hi => ?_⟩⟩
  obtain ⟨h1, h2⟩ := List.getElem?_eq_some_iff.1 hi
  obtain rfl : i = 0 := by simpa using h1
  simp at h2
  subst h2
  exact ⟨by simp, by simp, by simp, by simp, by simp⟩

/-- The law's own operation in a block of its own. -/
def Bx (g : Nat) (k a b n u : Int) (W : World) : Prop := W.heap[g]? = some (.cells #[.int .i64 k, .int .i64 a, .int .i64 b, .int .i64 n, .int .u64 u] 35 (0, 0))
theorem bx_new (w : World) (k a b n u : Int) : Bx w.heap.size k a b n u (w.alloc (.cells #[.int .i64 k, .int .i64 a, .int .i64 b, .int .i64 n, .int .u64 u] 35)) := (MapKept.heap_alloc w _).1
theorem bx_lt {g : Nat} {k a b n u : Int} {W : World} (h : Bx g k a b n u W) : g < W.heap.size := lt_of_block h
theorem bx_below {g : Nat} {k a b n u : Int} {W W1 : World} (hb : Below W.heap.size W W1) (h : Bx g k a b n u W) : Bx g k a b n u W1 := (hb.block g (bx_lt h)).trans h
theorem bx_cells {g : Nat} {k a b n u : Int} {W : World} (h : Bx g k a b n u W) : W.cell? ⟨g, 0, none⟩ = some (.int .i64 k) ∧ W.cell? ⟨g, 1, none⟩ = some (.int .i64 a) ∧ W.cell? ⟨g, 2, none⟩ = some (.int .i64 b) ∧ W.cell? ⟨g, 3, none⟩ = some (.int .i64 n) ∧ W.cell? ⟨g, 4, none⟩ = some (.int .u64 u) ∧ W.frozen? ⟨g, 0, none⟩ = false ∧ g < W.heap.size := by
  have hl := bx_lt h
  unfold Bx at h
  exact ⟨by simp [World.cell?, h], by simp [World.cell?, h], by simp [World.cell?, h], by simp [World.cell?, h], by simp [World.cell?, h], by simp [World.frozen?, h], hl⟩
end Go.Proofs.Ytmjjbnjedafdaaa
