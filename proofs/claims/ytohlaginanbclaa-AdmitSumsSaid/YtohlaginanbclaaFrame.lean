/-
  The laws' arguments opened; a law that is walked is proved.
-/
import Derived.Test.YtohlaginanbclaaRows
import Derived.Test.YtohlaginanbclaaBase
import Derived.Test.YtohlaginanbclaaProg
namespace Go.Proofs.Ytohlaginanbclaa
open Go.ChangeShapes Go.WideShapes Go.ChangeAt Go.RowKit Go.Joins Go.Deep

theorem own : ownKnob Try.prog.godebug = none := by kernel_rfl
theorem laidOut : laidOutB Try.prog = true := by kernel_rfl
theorem cellsCfg : Try.prog.cellsOf 23 = 5 := by kernel_rfl
theorem cellsSt : Try.prog.cellsOf 25 = 2 := by kernel_rfl
theorem cellsInt : Try.prog.cellsOf 3 = 1 := by kernel_rfl

section
variable {H : Type} {enc : TypeId × Value → H} {w : World} {base : Nat} {spare : Nat → Bool} {held : Bool}

theorem one_int {n : Nat} {v : Value} {y : DataW H × List MemPlace} (h : DataW.trod enc Try.prog w base spare held n 3 [v] = some y) : ∃ k : Int, v = .int .i64 k := by
  obtain ⟨k, hk, _, _⟩ := DataW.trod_int Try.underlying3 h
  exact ⟨k, by simpa using hk⟩

theorem open_cfg {r : Reach} {b0 : Nat} {v : Value} {d : DataW H} {p : List MemPlace} (hv : Value.okWide Try.prog w r b0 23 v) (h : DataW.Trod enc Try.prog w base spare held 23 v d p) :
    ∃ C N S K Q : Int, v = .agg #[.int .i64 C, .int .i64 N, .int .i64 S, .int .i64 K, .int .i64 Q] := by
  obtain ⟨cs, rfl, hsz⟩ := okWide_struct Try.underlying23 hv
  obtain ⟨l⟩ := cs
  match l, hsz.trans cellsCfg with
  | [c0, c1, c2, c3, c4], _ =>
    obtain ⟨fuel, hf⟩ := h
    obtain ⟨xs, n, _, hx, _, hlen, hg⟩ := DataW.trod_struct Try.underlying23 hf
    match xs, hlen with
    | [y0, y1, y2, y3, y4], _ =>
      obtain ⟨C, rfl⟩ := one_int (v := c0) (y := y0) (by simpa [Value.cells, cellsInt] using hg 0 _ rfl)
      obtain ⟨N, rfl⟩ := one_int (v := c1) (y := y1) (by simpa [Value.cells, cellsInt] using hg 1 _ rfl)
      obtain ⟨S, rfl⟩ := one_int (v := c2) (y := y2) (by simpa [Value.cells, cellsInt] using hg 2 _ rfl)
      obtain ⟨K, rfl⟩ := one_int (v := c3) (y := y3) (by simpa [Value.cells, cellsInt] using hg 3 _ rfl)
      obtain ⟨Q, rfl⟩ := one_int (v := c4) (y := y4) (by simpa [Value.cells, cellsInt] using hg 4 _ rfl)
      exact ⟨C, N, S, K, Q, rfl⟩

theorem open_st {r : Reach} {b0 : Nat} {v : Value} {d : DataW H} {p : List MemPlace} (hv : Value.okWide Try.prog w r b0 25 v) (h : DataW.Trod enc Try.prog w base spare held 25 v d p) :
    ∃ o l : Int, v = .agg #[.int .i64 o, .int .i64 l] := by
  obtain ⟨cs, rfl, hsz⟩ := okWide_struct Try.underlying25 hv
  obtain ⟨l⟩ := cs
  match l, hsz.trans cellsSt with
  | [c0, c1], _ =>
    obtain ⟨fuel, hf⟩ := h
    obtain ⟨xs, n, _, _, _, hlen, hg⟩ := DataW.trod_struct Try.underlying25 hf
    match xs, hlen with
    | [y0, y1], _ =>
      obtain ⟨o, rfl⟩ := one_int (v := c0) (y := y0) (by simpa [Value.cells, cellsInt] using hg 0 _ rfl)
      obtain ⟨l, rfl⟩ := one_int (v := c1) (y := y1) (by simpa [Value.cells, cellsInt] using hg 1 _ rfl)
      exact ⟨o, l, rfl⟩

theorem open_num {r : Reach} {b0 : Nat} {v : Value} {d : DataW H} {p : List MemPlace} (hv : Value.okWide Try.prog w r b0 3 v) (h : DataW.Trod enc Try.prog w base spare held 3 v d p) : ∃ n : Int, v = .int .i64 n := by
  obtain ⟨n, rfl, _⟩ := open_int Try.underlying3 hv h
  exact ⟨n, rfl⟩
end

theorem law2 {f : Func} {W : World} {base : Nat} {t u : TypeId} {H : Type} {enc : TypeId × Value → H} {args : Array Value} {ds : List (DataW H)} {p : List MemPlace} (hp : f.params = #[t, u])
    (hA : DataW.TrodAll enc Try.prog W 0 (fun _ => true) true f.params.toList args.toList ds p)
    (hval : ∀ (j : Nat) t v, f.params[j]? = some t → args[j]? = some v → Value.okWide Try.prog W .any base t v) :
    ∃ (v0 v1 : Value) (d0 d1 : DataW H) (p0 p1 : List MemPlace), args = #[v0, v1] ∧ ds = [d0, d1] ∧ DataW.Trod enc Try.prog W 0 (fun _ => true) true t v0 d0 p0 ∧ DataW.Trod enc Try.prog W 0 (fun _ => true) true u v1 d1 p1 ∧ Value.okWide Try.prog W .any base t v0 ∧ Value.okWide Try.prog W .any base u v1 := by
  rw [hp] at hA hval
  obtain ⟨v0, vs0, d0, ds0, p0, q0, e0, rfl, rfl, h0, r0⟩ := trodAll_cons hA
  obtain ⟨v1, vs1, d1, ds1, p1, q1, rfl, rfl, rfl, h1, r1⟩ := trodAll_cons r0
  have hn : vs1 = [] := by
    cases vs1 with
    | nil => rfl
    | cons a b => cases ds1 <;> exact r1.elim
  subst hn
  have hd : ds1 = [] := by
    cases ds1 with
    | nil => rfl
    | cons a b => exact r1.elim
  subst hd
  have he : args = #[v0, v1] := by rw [← Array.toList_inj]; exact e0
  subst he
  exact ⟨v0, v1, d0, d1, p0, p1, rfl, rfl, h0, h1, hval 0 t v0 rfl rfl, hval 1 u v1 rfl rfl⟩

theorem law3 {f : Func} {W : World} {base : Nat} {t u s : TypeId} {H : Type} {enc : TypeId × Value → H} {args : Array Value} {ds : List (DataW H)} {p : List MemPlace} (hp : f.params = #[t, u, s])
    (hA : DataW.TrodAll enc Try.prog W 0 (fun _ => true) true f.params.toList args.toList ds p)
    (hval : ∀ (j : Nat) t v, f.params[j]? = some t → args[j]? = some v → Value.okWide Try.prog W .any base t v) :
    ∃ (v0 v1 v2 : Value) (d0 d1 d2 : DataW H) (p0 p1 p2 : List MemPlace), args = #[v0, v1, v2] ∧ ds = [d0, d1, d2] ∧ DataW.Trod enc Try.prog W 0 (fun _ => true) true t v0 d0 p0 ∧ DataW.Trod enc Try.prog W 0 (fun _ => true) true u v1 d1 p1 ∧ DataW.Trod enc Try.prog W 0 (fun _ => true) true s v2 d2 p2 ∧ Value.okWide Try.prog W .any base t v0 ∧ Value.okWide Try.prog W .any base u v1 ∧ Value.okWide Try.prog W .any base s v2 := by
  rw [hp] at hA hval
  obtain ⟨v0, vs0, d0, ds0, p0, q0, e0, rfl, rfl, h0, r0⟩ := trodAll_cons hA
  obtain ⟨v1, vs1, d1, ds1, p1, q1, rfl, rfl, rfl, h1, r1⟩ := trodAll_cons r0
  obtain ⟨v2, vs2, d2, ds2, p2, q2, rfl, rfl, rfl, h2, r2⟩ := trodAll_cons r1
  have hn : vs2 = [] := by
    cases vs2 with
    | nil => rfl
    | cons a b => cases ds2 <;> exact r2.elim
  subst hn
  have hd : ds2 = [] := by
    cases ds2 with
    | nil => rfl
    | cons a b => exact r2.elim
  subst hd
  have he : args = #[v0, v1, v2] := by rw [← Array.toList_inj]; exact e0
  subst he
  exact ⟨v0, v1, v2, d0, d1, d2, p0, p1, p2, rfl, rfl, h0, h1, h2, hval 0 t v0 rfl rfl, hval 1 u v1 rfl rfl, hval 2 s v2 rfl rfl⟩
end Go.Proofs.Ytohlaginanbclaa
