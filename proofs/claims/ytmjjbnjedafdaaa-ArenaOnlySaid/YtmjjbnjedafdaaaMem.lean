/-
  Memory: blocks known whole; the player's block, its arena and what it read, through each kind of change.
-/
import Derived.Test.YtmjjbnjedafdaaaBase
import Derived.Laws.CopyOwn
import Derived.Laws.AppendOwn
import Derived.OneCell
namespace Go.Proofs.Ytmjjbnjedafdaaa
open Go.RowKit Go.Joins Go.Deep

def us (l : List Int) : List Value := l.map (Value.int .u64)
theorem us_length (l : List Int) : (us l).length = l.length := by simp [us]
theorem us_append (a b : List Int) : us (a ++ b) = us a ++ us b := by simp [us]
theorem us_get (l : List Int) (i : Nat) (h : i < l.length) : (us l)[i]? = some (.int .u64 (l.getD i 0)) := by simp [us, List.getD, h]

theorem blk_cell {w : World} {b : Nat} {l : List Value} {t : TypeId} (h : w.heap[b]? = some (.cells l.toArray t (0, 0))) (i : Nat) : w.cell? ⟨b, i, none⟩ = l[i]? := by simp [World.cell?, h]
theorem blk_free {w : World} {b : Nat} {l : List Value} {t : TypeId} (h : w.heap[b]? = some (.cells l.toArray t (0, 0))) (i : Nat) : w.frozen? ⟨b, i, none⟩ = false := by simp [World.frozen?, h]
theorem blk_set {w : World} {b i : Nat} {u : Value} {l : List Value} {t : TypeId} (h : w.heap[b]? = some (.cells l.toArray t (0, 0))) : (w.setCell ⟨b, i, none⟩ u).heap[b]? = some (.cells (l.set i u).toArray t (0, 0)) := by
  have hlt := lt_of_block h
  have h' : w.heap[b] = .cells l.toArray t (0, 0) := by simpa [Array.getElem?_eq_getElem hlt] using h
  show (w.heap.modify b _)[b]? = _
  rw [Array.getElem?_eq_getElem (by simpa using hlt), Array.getElem_modify_self, h']
  simp
theorem blk_sets {b : Nat} {t : TypeId} : ∀ (vs : List Value) (w : World) (o : Nat) (l : List Value), w.heap[b]? = some (.cells l.toArray t (0, 0)) → o + vs.length ≤ l.length → (w.setCells b o vs).heap[b]? = some (.cells (splice l o vs).toArray t (0, 0))
  | [], w, o, l, h, _ => by simpa [World.setCells, splice] using h
  | v :: r, w, o, l, h, hl => by
    have hl' : o + 1 + r.length ≤ (l.set o v).length := by simp at hl ⊢; omega
    rw [World.setCells, blk_sets r _ (o + 1) (l.set o v) (blk_set h) hl']
    have ho : o < l.length := by simp at hl; omega
    have e : splice (l.set o v) (o + 1) r = splice l o (v :: r) := by
      unfold splice
      rw [List.take_succ_eq_append_getElem (by simpa using ho), List.take_set_of_le (Nat.le_refl _), List.drop_set_of_lt (by omega)]
      simp [Nat.add_comm, Nat.add_left_comm]
    rw [e]
theorem sets_other {b k : Nat} (hk : k ≠ b) : ∀ (vs : List Value) (w : World) (o : Nat), (w.setCells b o vs).heap[k]? = w.heap[k]?
  | [], _, _ => rfl
  | v :: r, w, o => by rw [World.setCells, sets_other hk r, Below.heap_setCell _ _ _ _ hk]
theorem sets_size {b : Nat} : ∀ (vs : List Value) (w : World) (o : Nat), (w.setCells b o vs).heap.size = w.heap.size
  | [], _, _ => rfl
  | v :: r, w, o => by rw [World.setCells, sets_size r]; simp
theorem sets_below {b B : Nat} {w0 : World} (hB : B ≤ b) : ∀ (vs : List Value) (w : World) (o : Nat), Below B w0 w → Below B w0 (w.setCells b o vs)
  | [], _, _, h => h
  | v :: r, w, o, h => by rw [World.setCells]; exact sets_below hB r _ _ (h.setCell hB v)

/-- The player that a call of Play owns: its own block P, the block zb of its arena, and what it read, from block 'base' on. -/
structure Pl (w0 : World) (P zb base : Nat) (rest : List Value) (out got : List Int) (gv : Value) (r c : Int) (w : World) : Prop where
  hp : w.heap[P]? = some (.cells [.slice (some ⟨zb, 0, none⟩) out.length (out.length + rest.length), gv, .int .i64 r, .int .i64 c].toArray 64 (0, 0))
  hz : w.heap[zb]? = some (.cells (us out ++ rest).toArray 32 (0, 0))
  own : w.ownsRow base 32 1 gv got.length (us got)
  bel : Below w0.heap.size w0 w
  s1 : w0.heap.size ≤ zb
  s2 : zb < P
  s3 : P < base
  s4 : base ≤ w.heap.size
/-- What else lies below 'base' stays. -/
def Fr (base P zb : Nat) (w w' : World) : Prop := ∀ b, b < base → b ≠ P → b ≠ zb → w'.heap[b]? = w.heap[b]?
theorem Fr.refl (base P zb : Nat) (w : World) : Fr base P zb w w := fun _ _ _ _ => rfl
theorem Fr.trans {base P zb : Nat} {a b c : World} (h : Fr base P zb a b) (k : Fr base P zb b c) : Fr base P zb a c := fun i h1 h2 h3 => (k i h1 h2 h3).trans (h i h1 h2 h3)

/-- Both, carried through a walk. -/
def PF (w0 : World) (P zb base : Nat) (rest : List Value) (out got : List Int) (gv : Value) (r c : Int) (wa w : World) : Prop := Pl w0 P zb base rest out got gv r c w ∧ Fr base P zb wa w
section
variable {w0 wa w : World} {P zb base : Nat} {rest : List Value} {out got : List Int} {gv : Value} {r c : Int}

theorem pf_start (h : Pl w0 P zb base rest out got gv r c w) : PF w0 P zb base rest out got gv r c w w := ⟨h, Fr.refl _ _ _ _⟩
theorem pf_alloc (h : PF w0 P zb base rest out got gv r c wa w) (o : Obj) : PF w0 P zb base rest out got gv r c wa (w.alloc o) := by
  obtain ⟨⟨hp, hz, own, bel, s1, s2, s3, s4⟩, hf⟩ := h
  refine ⟨⟨?_, ?_, own.alloc o, bel.alloc (Nat.le_trans s1 (by omega)) o, s1, s2, s3, by simp; omega⟩, fun b h1 h2 h3 => ?_⟩
  · rw [Below.heap_alloc _ _ _ (by omega)]; exact hp
  · rw [Below.heap_alloc _ _ _ (by omega)]; exact hz
  · rw [Below.heap_alloc _ _ _ (by omega)]; exact hf b h1 h2 h3
theorem pf_drew (h : PF w0 P zb base rest out got gv r c wa w) : PF w0 P zb base rest out got gv r c wa w.drew := by
  obtain ⟨⟨hp, hz, own, bel, s1, s2, s3, s4⟩, hf⟩ := h
  exact ⟨⟨hp, hz, own, bel.drew, s1, s2, s3, s4⟩, hf⟩
theorem pf_drewN (h : PF w0 P zb base rest out got gv r c wa w) (n : Nat) : PF w0 P zb base rest out got gv r c wa (w.drewN n) := by
  obtain ⟨⟨hp, hz, own, bel, s1, s2, s3, s4⟩, hf⟩ := h
  exact ⟨⟨hp, hz, own, below_drewN bel n, s1, s2, s3, s4⟩, hf⟩
theorem us_set (l : List Int) (i : Nat) (x : Int) (rest : List Value) (h : i < l.length) : (us l ++ rest).set i (.int .u64 x) = us (l.set i x) ++ rest := by
  rw [List.set_append_left _ _ (by rw [us_length]; exact h)]
  simp [us]
theorem pf_set (h : PF w0 P zb base rest out got gv r c wa w) (i : Nat) (x : Int) (hi : i < out.length) : PF w0 P zb base rest (out.set i x) got gv r c wa (w.setCell ⟨zb, i, none⟩ (.int .u64 x)) := by
  obtain ⟨⟨hp, hz, own, bel, s1, s2, s3, s4⟩, hf⟩ := h
  refine ⟨⟨?_, ?_, ownsRow_setCell_below own (by simp; omega) _, bel.setCell s1 _, s1, s2, s3, by simp; omega⟩, fun b h1 h2 h3 => ?_⟩
  · rw [Below.heap_setCell _ _ _ _ (by simp; omega), List.length_set]; exact hp
  · rw [blk_set hz, us_set _ _ _ _ hi]
  · rw [Below.heap_setCell _ _ _ _ (by simpa using h3)]; exact hf b h1 h2 h3
theorem pf_reads (h : PF w0 P zb base rest out got gv r c wa w) (x : Int) : PF w0 P zb base rest out got gv x c wa (w.setCell ⟨P, 2, none⟩ (.int .i64 x)) := by
  obtain ⟨⟨hp, hz, own, bel, s1, s2, s3, s4⟩, hf⟩ := h
  refine ⟨⟨?_, ?_, ownsRow_setCell_below own (by simp; omega) _, bel.setCell (by simp; omega) _, s1, s2, s3, by simp; omega⟩, fun b h1 h2 h3 => ?_⟩
  · rw [blk_set hp]; rfl
  · rw [Below.heap_setCell _ _ _ _ (by simp; omega)]; exact hz
  · rw [Below.heap_setCell _ _ _ _ (by simpa using h2)]; exact hf b h1 h2 h3
theorem pf_writes (h : PF w0 P zb base rest out got gv r c wa w) (x : Int) : PF w0 P zb base rest out got gv r x wa (w.setCell ⟨P, 3, none⟩ (.int .i64 x)) := by
  obtain ⟨⟨hp, hz, own, bel, s1, s2, s3, s4⟩, hf⟩ := h
  refine ⟨⟨?_, ?_, ownsRow_setCell_below own (by simp; omega) _, bel.setCell (by simp; omega) _, s1, s2, s3, by simp; omega⟩, fun b h1 h2 h3 => ?_⟩
  · rw [blk_set hp]; rfl
  · rw [Below.heap_setCell _ _ _ _ (by simp; omega)]; exact hz
  · rw [Below.heap_setCell _ _ _ _ (by simpa using h2)]; exact hf b h1 h2 h3
theorem pf_got (h : PF w0 P zb base rest out got gv r c wa w) {w1 : World} {gv' : Value} {x : Int} (hg : w.grownBy w1 gv.ownBlock) (ho : w1.ownsRow base 32 1 gv' (got.length + 1) (us got ++ [.int .u64 x])) :
    PF w0 P zb base rest out (got ++ [x]) gv' r c wa (w1.setCell ⟨P, 1, none⟩ gv') := by
  obtain ⟨⟨hp, hz, own, bel, s1, s2, s3, s4⟩, hf⟩ := h
  have hrow : ∀ k, gv.ownBlock = some k → base ≤ k := fun k hk => (own.lt k hk).1
  have hne : ∀ b, b < base → some b ≠ gv.ownBlock := fun b hb he => by have := hrow b he.symm; omega
  refine ⟨⟨?_, ?_, ?_, (bel.grown hg (by omega) (fun k hk => by have := hrow k hk; omega)).setCell (by simp; omega) _, s1, s2, s3, by have := hg.size; simp; omega⟩, fun b h1 h2 h3 => ?_⟩
  · rw [blk_set (by rw [hg.block P (by omega) (hne P s3)]; exact hp)]; rfl
  · rw [Below.heap_setCell _ _ _ _ (by simp; omega), hg.block zb (by omega) (hne zb (by omega))]; exact hz
  · have := ownsRow_setCell_below ho (a := ⟨P, 1, none⟩) s3 gv'
    rw [List.length_append, us_append]; exact this
  · rw [Below.heap_setCell _ _ _ _ (by simpa using h2), hg.block b (by omega) (hne b h1)]; exact hf b h1 h2 h3
/-- The arena's block written anew: a copy, a clear. -/
theorem pf_row (h : PF w0 P zb base rest out got gv r c wa w) {w1 : World} {out' : List Int} (hl : out'.length = out.length) (h1 : w1.heap[zb]? = some (.cells (us out' ++ rest).toArray 32 (0, 0))) (h2 : ∀ k, k ≠ zb → w1.heap[k]? = w.heap[k]?) (h3 : Below zb w w1) (h4 : w1.heap.size = w.heap.size) :
    PF w0 P zb base rest out' got gv r c wa w1 := by
  obtain ⟨⟨hp, hz, own, bel, s1, s2, s3, s4⟩, hf⟩ := h
  refine ⟨⟨?_, h1, ?_, bel.trans (h3.mono s1), s1, s2, s3, by omega⟩, fun b g1 g2 g3 => ?_⟩
  · rw [h2 P (by omega), hl]; exact hp
  · have hg : w.grownBy w1 (some zb) := ⟨h3.os, h3.tape, h3.output, by omega, fun k _ hk => h2 k (fun e => hk (by rw [e]))⟩
    refine own.kept hg ?_
    cases ho : gv.ownBlock with
    | none => exact .inl rfl
    | some k => refine .inr (fun e => ?_); have := (own.lt k ho).1; simp at e; omega
  · rw [h2 b g3]; exact hf b g1 g2 g3
/-- What the walk reads of the player. -/
theorem pf_cells (h : PF w0 P zb base rest out got gv r c wa w) :
    w.cell? ⟨P, 0, none⟩ = some (.slice (some ⟨zb, 0, none⟩) out.length (out.length + rest.length)) ∧ w.cell? ⟨P, 1, none⟩ = some gv ∧ w.cell? ⟨P, 2, none⟩ = some (.int .i64 r) ∧ w.cell? ⟨P, 3, none⟩ = some (.int .i64 c) ∧
      w.frozen? ⟨P, 1, none⟩ = false ∧ w.frozen? ⟨P, 2, none⟩ = false ∧ w.frozen? ⟨P, 3, none⟩ = false ∧ P < w.heap.size ∧ zb < w.heap.size ∧ (∀ i, i < out.length → w.cell? ⟨zb, i, none⟩ = some (.int .u64 (out.getD i 0))) ∧ (∀ i, w.frozen? ⟨zb, i, none⟩ = false) := by
  obtain ⟨⟨hp, hz, own, bel, s1, s2, s3, s4⟩, hf⟩ := h
  refine ⟨by rw [blk_cell hp]; rfl, by rw [blk_cell hp]; rfl, by rw [blk_cell hp]; rfl, by rw [blk_cell hp]; rfl, blk_free hp _, blk_free hp _, blk_free hp _, by omega, by omega, fun i hi => ?_, fun i => blk_free hz i⟩
  rw [blk_cell hz, List.getElem?_append_left (by rw [us_length]; exact hi), us_get _ _ hi]
end
end Go.Proofs.Ytmjjbnjedafdaaa
