/-
  The laws' arguments opened; a law that is walked is proved.
-/
import Derived.Test.YtmjjbnjedafdaaaRows
import Derived.Test.YtmjjbnjedafdaaaAwake
namespace Go.Proofs.Ytmjjbnjedafdaaa
open Go.ChangeShapes Go.WideShapes Go.ChangeAt Go.RowKit Go.Joins Go.Deep

theorem own : ownKnob Try.prog.godebug = none := by kernel_rfl
theorem laidOut : laidOutB Try.prog = true := by kernel_rfl
theorem cellsOp : Try.prog.cellsOf 35 = 5 := by kernel_rfl
theorem cellsInt : Try.prog.cellsOf 3 = 1 := by kernel_rfl
theorem cellsU : Try.prog.cellsOf 32 = 1 := by kernel_rfl

section
variable {H : Type} {enc : TypeId × Value → H} {w : World} {base : Nat} {spare : Nat → Bool} {held : Bool}

theorem one_i {n : Nat} {v : Value} {y : DataW H × List MemPlace} (h : DataW.trod enc Try.prog w base spare held n 3 [v] = some y) : ∃ k : Int, v = .int .i64 k ∧ (Lit.int .i64 k).wf = true := by
  obtain ⟨k, hk, _, hw⟩ := DataW.trod_int Try.underlying3 h
  exact ⟨k, by simpa using hk, hw⟩
theorem one_u {n : Nat} {v : Value} {y : DataW H × List MemPlace} (h : DataW.trod enc Try.prog w base spare held n 32 [v] = some y) : ∃ k : Int, v = .int .u64 k := by
  obtain ⟨k, hk, _, _⟩ := DataW.trod_int Try.underlying32 h
  exact ⟨k, by simpa using hk⟩
/-- The five cells of an operation. -/
theorem five_op {n : Nat} {cs : List Value} {y : DataW H × List MemPlace} (hl : cs.length = 5) (h : DataW.trod enc Try.prog w base spare held n 35 cs = some y) :
    ∃ x : AOp, cs = [.int .i64 x.k, .int .i64 x.a, .int .i64 x.b, .int .i64 x.n, .int .u64 x.v] ∧ (Lit.int .i64 x.k).wf = true ∧ (Lit.int .i64 x.a).wf = true ∧ (Lit.int .i64 x.b).wf = true ∧ (Lit.int .i64 x.n).wf = true := by
  match cs, hl with
  | [c0, c1, c2, c3, c4], _ =>
    obtain ⟨xs, m, _, _, _, hlen, hg⟩ := DataW.trod_struct Try.underlying35 h
    match xs, hlen with
    | [y0, y1, y2, y3, y4], _ =>
      obtain ⟨k, rfl, hk⟩ := one_i (v := c0) (y := y0) (by simpa [Value.cells, cellsInt] using hg 0 _ rfl)
      obtain ⟨a, rfl, ha⟩ := one_i (v := c1) (y := y1) (by simpa [Value.cells, cellsInt] using hg 1 _ rfl)
      obtain ⟨b, rfl, hb⟩ := one_i (v := c2) (y := y2) (by simpa [Value.cells, cellsInt] using hg 2 _ rfl)
      obtain ⟨n', rfl, hn⟩ := one_i (v := c3) (y := y3) (by simpa [Value.cells, cellsInt] using hg 3 _ rfl)
      obtain ⟨v, rfl⟩ := one_u (v := c4) (y := y4) (by simpa [Value.cells, cellsU] using hg 4 _ rfl)
      exact ⟨⟨k, a, b, n', v⟩, rfl, hk, ha, hb, hn⟩
end

theorem open_words {H : Type} {enc : TypeId × Value → H} {w : World} {base : Nat} {held : Bool} {r : Reach} {b0 : Nat} {v : Value} {d : DataW H} {p : List MemPlace} (hv : Value.okWide Try.prog w r b0 22 v) (h : DataW.Trod enc Try.prog w base (fun _ => true) held 22 v d p) :
    ∃ zs : List Int, Words w v zs := by
  obtain ⟨a, len, cap, rfl⟩ := okWide_slice Try.underlying22 hv
  obtain ⟨fuel, hf⟩ := h
  rcases open_ints Try.underlying22 Try.underlying32 cellsU hf with ⟨hcs, _⟩ | ⟨a', len', cap', zs, hcs, _, hl, _, hlen, _, hcell, _⟩
  · simp [Value.cells] at hcs
    obtain ⟨rfl, rfl, rfl⟩ := hcs
    exact ⟨[], .inl ⟨rfl, _, _, rfl⟩⟩
  · simp [Value.cells] at hcs
    obtain ⟨rfl, rfl, rfl⟩ := hcs
    simp at hlen
    by_cases h0 : len = 0
    · subst h0
      exact ⟨[], .inl ⟨rfl, _, _, rfl⟩⟩
    · obtain ⟨b, off, rfl, hc⟩ := ints_at hcell (by omega)
      have hb := World.block_lt_of_cell? (h := hc 0 (by omega))
      have ht : (zs.take len).length = len := by rw [List.length_take]; omega
      refine ⟨zs.take len, .inr ⟨by omega, b, off, cap, by rw [ht], by omega, hb, fun i hi => ?_⟩⟩
      rw [ht] at hi
      rw [hc i (by omega)]
      simp [List.getD, hi]

instance : Inhabited AOp := ⟨⟨0, 0, 0, 0, 0⟩⟩

theorem open_ops {H : Type} {enc : TypeId × Value → H} {w : World} {base : Nat} {held : Bool} {r : Reach} {b0 : Nat} {v : Value} {d : DataW H} {p : List MemPlace} (hv : Value.okWide Try.prog w r b0 23 v) (h : DataW.Trod enc Try.prog w base (fun _ => true) held 23 v d p) :
    ∃ xs : List AOp, OpsAt w v xs := by
  obtain ⟨a, len, cap, rfl⟩ := okWide_slice Try.underlying23 hv
  obtain ⟨fuel, hf⟩ := h
  rcases open_slice Try.underlying23 hf with ⟨hcs, _⟩ | ⟨a', len', cap', m, n, D, Pl, hcs, _, hl, _, hmm, _, hi⟩
  · simp [Value.cells] at hcs
    obtain ⟨rfl, rfl, rfl⟩ := hcs
    exact ⟨[], by simp, .inl ⟨rfl, _, _, rfl⟩⟩
  · simp [Value.cells] at hcs
    obtain ⟨rfl, rfl, rfl⟩ := hcs
    simp at hmm
    by_cases h0 : len = 0
    · subst h0
      exact ⟨[], by simp, .inl ⟨rfl, _, _, rfl⟩⟩
    · have hx : ∀ i, i < len → ∃ x : AOp, (Lit.int .i64 x.k).wf = true ∧ w.cell? (a'.add (i * 5)) = some (.int .i64 x.k) ∧ w.cell? (a'.add (i * 5 + 1)) = some (.int .i64 x.a) ∧ w.cell? (a'.add (i * 5 + 2)) = some (.int .i64 x.b) ∧ w.cell? (a'.add (i * 5 + 3)) = some (.int .i64 x.n) ∧ w.cell? (a'.add (i * 5 + 4)) = some (.int .u64 x.v) := by
        intro i hi'
        obtain ⟨cs', hc, ht⟩ := hi i (by omega)
        rw [cellsOp] at hc
        obtain ⟨_, hcl, hat⟩ := World.cells?_some hc
        obtain ⟨x, rfl, hk, _⟩ := five_op hcl ht
        refine ⟨x, hk, ?_, ?_, ?_, ?_, ?_⟩
        · have := hat 0 (by omega); rw [add_add, Nat.add_zero] at this; exact this
        · have := hat 1 (by omega); rw [add_add] at this; exact this
        · have := hat 2 (by omega); rw [add_add] at this; exact this
        · have := hat 3 (by omega); rw [add_add] at this; exact this
        · have := hat 4 (by omega); rw [add_add] at this; exact this
      obtain ⟨f, hf'⟩ := choose_lt hx
      obtain ⟨b, off, spot⟩ := a'
      have hsp : spot = none := by simpa [Addr.add] using World.cell?_spot (hf' 0 (by omega)).2.1
      subst hsp
      have hb := World.block_lt_of_cell? (h := (hf' 0 (by omega)).2.1)
      have hlen : ((List.range len).map f).length = len := by simp
      refine ⟨(List.range len).map f, ?_, .inr ⟨by omega, b, off, cap, by rw [hlen], by omega, by simpa [Addr.add] using hb, fun i x hi' => ?_⟩⟩
      · intro x hx'
        obtain ⟨i, hi', rfl⟩ := List.mem_map.1 hx'
        exact (hf' i (by simpa using hi')).1
      · have hi2 : i < len := by have := (List.getElem?_eq_some_iff.1 hi').1; rw [hlen] at this; exact this
        have hxe : x = f i := by simpa [hi2] using hi'.symm
        subst hxe
        obtain ⟨_, d0, d1, d2, d3, d4⟩ := hf' i hi2
        rw [add_plain] at d0 d1 d2 d3 d4
        simp only [Nat.add_assoc] at d0 d1 d2 d3 d4 ⊢
        exact ⟨d0, d1, d2, d3, d4⟩

theorem law2 {f : Func} {W : World} {base : Nat} {t u : TypeId} {H : Type} {enc : TypeId × Value → H} {args : Array Value} {ds : List (DataW H)} {p : List MemPlace} (hp : f.params = #[t, u])
    (hA : DataW.TrodAll enc Try.prog W 0 (fun _ => true) true f.params.toList args.toList ds p)
    (hval : ∀ (j : Nat) t v, f.params[j]? = some t → args[j]? = some v → Value.okWide Try.prog W .any base t v) :
    ∃ (v0 v1 : Value) (d0 d1 : DataW H) (p0 p1 : List MemPlace), args = #[v0, v1] ∧ ds = [d0, d1] ∧ DataW.Trod enc Try.prog W 0 (fun _ => true) true t v0 d0 p0 ∧ DataW.Trod enc Try.prog W 0 (fun _ => true) true u v1 d1 p1 ∧ Value.okWide Try.prog W .any base t v0 ∧ Value.okWide Try.prog W .any base u v1 := by
  rw [hp] at hA hval
  obtain ⟨v0, vs0, d0, ds0, p0, q0, e0, rfl, rfl, h0, r0⟩ := trodAll_cons hA
  obtain ⟨v1, vs1, d1, ds1, p1, q1, rfl, rfl, rfl, h1, r1⟩ := trodAll_cons r0
  have hn : vs1 = [] := by
    cases vs1 with
    | nil => rfl
    | cons a b => cases ds1 <;> exact r1.elim
  subst hn
  have hd : ds1 = [] := by
    cases ds1 with
    | nil => rfl
    | cons a b => exact r1.elim
  subst hd
  have he : args = #[v0, v1] := by rw [← Array.toList_inj]; exact e0
  subst he
  exact ⟨v0, v1, d0, d1, p0, p1, rfl, rfl, h0, h1, hval 0 t v0 rfl rfl, hval 1 u v1 rfl rfl⟩

theorem law3 {f : Func} {W : World} {base : Nat} {t u s : TypeId} {H : Type} {enc : TypeId × Value → H} {args : Array Value} {ds : List (DataW H)} {p : List MemPlace} (hp : f.params = #[t, u, s])
    (hA : DataW.TrodAll enc Try.prog W 0 (fun _ => true) true f.params.toList args.toList ds p)
    (hval : ∀ (j : Nat) t v, f.params[j]? = some t → args[j]? = some v → Value.okWide Try.prog W .any base t v) :
    ∃ (v0 v1 v2 : Value) (d0 d1 d2 : DataW H) (p0 p1 p2 : List MemPlace), args = #[v0, v1, v2] ∧ ds = [d0, d1, d2] ∧ DataW.Trod enc Try.prog W 0 (fun _ => true) true t v0 d0 p0 ∧ DataW.Trod enc Try.prog W 0 (fun _ => true) true u v1 d1 p1 ∧ DataW.Trod enc Try.prog W 0 (fun _ => true) true s v2 d2 p2 ∧ Value.okWide Try.prog W .any base t v0 ∧ Value.okWide Try.prog W .any base u v1 ∧ Value.okWide Try.prog W .any base s v2 := by
  rw [hp] at hA hval
  obtain ⟨v0, vs0, d0, ds0, p0, q0, e0, rfl, rfl, h0, r0⟩ := trodAll_cons hA
  obtain ⟨v1, vs1, d1, ds1, p1, q1, rfl, rfl, rfl, h1, r1⟩ := trodAll_cons r0
  obtain ⟨v2, vs2, d2, ds2, p2, q2, rfl, rfl, rfl, h2, r2⟩ := trodAll_cons r1
  have hn : vs2 = [] := by
    cases vs2 with
    | nil => rfl
    | cons a b => cases ds2 <;> exact r2.elim
  subst hn
  have hd : ds2 = [] := by
    cases ds2 with
    | nil => rfl
    | cons a b => exact r2.elim
  subst hd
  have he : args = #[v0, v1, v2] := by rw [← Array.toList_inj]; exact e0
  subst he
  exact ⟨v0, v1, v2, d0, d1, d2, p0, p1, p2, rfl, rfl, h0, h1, h2, hval 0 t v0 rfl rfl, hval 1 u v1 rfl rfl, hval 2 s v2 rfl rfl⟩
end Go.Proofs.Ytmjjbnjedafdaaa
