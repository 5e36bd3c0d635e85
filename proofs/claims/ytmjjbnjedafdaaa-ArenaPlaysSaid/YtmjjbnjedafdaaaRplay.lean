/-
  Walk of the reference of the layer arena: Play.
-/
import Derived.Test.YtmjjbnjedafdaaaRefsb
import Derived.Deep.AppendLies
import Derived.RegionTactic
import Derived.BigRegion
namespace Go.Proofs.Ytmjjbnjedafdaaa
open Go.RowKit

/-- What the reference's Play holds: its arena at block go, what it read, its count at block cb. -/
structure RP (w0 : World) (cb : Nat) (out got : List Int) (gv : Value) (go : Nat) (rest : List Value) (r c : Int) (w : World) : Prop where
  hz : w.heap[go]? = some (.cells (us out ++ rest).toArray 32 (0, 0))
  hm : out.length + rest.length ≤ maxLen
  own : w.ownsRow (cb + 1) 32 1 gv got.length (us got)
  ne1 : gv.ownBlock ≠ some go
  ne2 : go ≠ cb
  s1 : w0.heap.size ≤ go
  hc : w.heap[cb]? = some (.cells [.int .i64 r, .int .i64 c].toArray 26 (0, 0))
  s2 : w0.heap.size ≤ cb
  bel : Below w0.heap.size w0 w
section
variable {w0 w : World} {cb go : Nat} {out got : List Int} {gv : Value} {rest : List Value} {r c : Int}
theorem rp_call (h : RP w0 cb out got gv go rest r c w) {w1 : World} (hb : Below w.heap.size w w1) : RP w0 cb out got gv go rest r c w1 := by
  obtain ⟨hz, hm, own, ne1, ne2, s1, hc, s2, bel⟩ := h
  refine ⟨(hb.block go (lt_of_block hz)).trans hz, hm, ?_, ne1, ne2, s1, (hb.block cb (lt_of_block hc)).trans hc, s2, below_call hb bel (Nat.le_trans s2 (Nat.le_of_lt (lt_of_block hc)) |> fun _ => Nat.le_refl _)⟩
  obtain ⟨h1, h2⟩ := own
  refine ⟨h1, ?_⟩
  rcases h2 with h2 | ⟨g, cap, cur, e1, e2, e3, e4⟩
  · exact .inl h2
  · exact .inr ⟨g, cap, cur, e1, e2, (hb.block g (lt_of_block e3)).trans e3, e4⟩
theorem rp_alloc (h : RP w0 cb out got gv go rest r c w) (ob : Obj) : RP w0 cb out got gv go rest r c (w.alloc ob) := rp_call h (new_below _ _)
theorem rp_drew (h : RP w0 cb out got gv go rest r c w) : RP w0 cb out got gv go rest r c w.drew := by
  obtain ⟨hz, hm, own, ne1, ne2, s1, hc, s2, bel⟩ := h
  exact ⟨hz, hm, own, ne1, ne2, s1, hc, s2, bel.drew⟩
theorem rp_next (h : RP w0 cb out got gv go rest r c w) {w1 : World} {v : Value} {out' : List Int} (hb : Below w.heap.size w w1) (ho : Own w v out' w1) (h0 : 0 < out'.length) : ∃ go' rest', v = .slice (some ⟨go', 0, none⟩) out'.length (out'.length + rest'.length) ∧ RP w0 cb out' got gv go' rest' r c w1 := by
  have h1 := rp_call h hb
  obtain ⟨g, rest', e1, e2, e3, e4, e5, _⟩ := cloned_of (w := w) h0 ho hb
  have e1' : v = .slice (some ⟨g, 0, none⟩) out'.length (out'.length + rest'.length) := by simpa using e1
  have hcb := lt_of_block h.hc
  refine ⟨g, rest', e1', e5, e4, h1.own, fun hh => ?_, by omega, by have := h.s2; omega, h1.hc, h1.s2, h1.bel⟩
  have := (h.own.lt g hh).2
  omega
theorem rp_reads (h : RP w0 cb out got gv go rest r c w) (x : Int) : RP w0 cb out got gv go rest x c (w.setCell ⟨cb, 0, none⟩ (.int .i64 x)) := by
  obtain ⟨hz, hm, own, ne1, ne2, s1, hc, s2, bel⟩ := h
  exact ⟨by rw [Below.heap_setCell _ _ _ _ (by simpa using ne2)]; exact hz, hm, ownsRow_setCell_below own (by simp) _, ne1, ne2, s1, by rw [blk_set hc]; rfl, s2, bel.setCell s2 _⟩
theorem rp_writes (h : RP w0 cb out got gv go rest r c w) (x : Int) : RP w0 cb out got gv go rest r x (w.setCell ⟨cb, 1, none⟩ (.int .i64 x)) := by
  obtain ⟨hz, hm, own, ne1, ne2, s1, hc, s2, bel⟩ := h
  exact ⟨by rw [Below.heap_setCell _ _ _ _ (by simpa using ne2)]; exact hz, hm, ownsRow_setCell_below own (by simp) _, ne1, ne2, s1, by rw [blk_set hc]; rfl, s2, bel.setCell s2 _⟩
theorem rp_got (h : RP w0 cb out got gv go rest r c w) {w1 : World} {g cap : Nat} {x : Int} (hg : w.grownBy w1 gv.ownBlock) (ho : w1.ownsRow (cb + 1) 32 1 (.slice (some ⟨g, 0, none⟩) (got.length + 1) cap) (got.length + 1) (us got ++ [.int .u64 x])) (hat : gv.ownBlock = some g ∨ g = w.heap.size) :
    RP w0 cb out (got ++ [x]) (.slice (some ⟨g, 0, none⟩) (got.length + 1) cap) go rest r c w1 := by
  obtain ⟨hz, hm, own, ne1, ne2, s1, hc, s2, bel⟩ := h
  have hgo := lt_of_block hz
  have hcb := lt_of_block hc
  have hcne : some cb ≠ gv.ownBlock := fun he => by have := (own.lt cb he.symm).1; omega
  refine ⟨(hg.block go hgo (fun he => ne1 he.symm)).trans hz, hm, by rw [List.length_append, us_append]; exact ho, ?_, ne2, s1, (hg.block cb hcb hcne).trans hc, s2, bel.grown hg (by omega) (fun k hk => by have := (own.lt k hk).1; omega)⟩
  intro he
  simp [Value.ownBlock] at he
  subst he
  rcases hat with h1 | h1
  · exact ne1 h1
  · omega
theorem rp_cells (h : RP w0 cb out got gv go rest r c w) : w.cell? ⟨cb, 0, none⟩ = some (.int .i64 r) ∧ w.cell? ⟨cb, 1, none⟩ = some (.int .i64 c) ∧ w.frozen? ⟨cb, 0, none⟩ = false ∧ w.frozen? ⟨cb, 1, none⟩ = false ∧ cb < w.heap.size :=
  ⟨by rw [blk_cell h.hc]; rfl, by rw [blk_cell h.hc]; rfl, blk_free h.hc _, blk_free h.hc _, lt_of_block h.hc⟩
theorem rp_own (h : RP w0 cb out got gv go rest r c w) : Own w0 (.slice (some ⟨go, 0, none⟩) out.length (out.length + rest.length)) out w ∧ Own w0 gv got w := by
  constructor
  · exact row_own ⟨h.hz, h.bel, h.s1⟩ h.hm
  · obtain ⟨h1, h2⟩ := h.own
    refine ⟨h1, ?_⟩
    rcases h2 with h2 | ⟨g, cap, cur, e1, e2, e3⟩
    · exact .inl h2
    · exact .inr ⟨g, cap, cur, e1, by have := h.s2; omega, e3⟩
end
theorem rget_val {zs : List Int} {a x e : Int} {v : Value} (w : World) (hv : Words w v zs) (h : getR zs a = (x, e)) : Calls Try.prog 31 #[v, .int .i64 a] w fun e' w' => e' = .returned (.tuple #[.int .u64 x, .int .i64 e]) ∧ w = w' := by
  have := rget_any zs a v w hv; rw [h] at this; exact this
theorem one_val {f : Nat} {args : Array Value} {R R' : PR} {w : World} (h : R = R') (hc : Calls Try.prog f args w (OnePost R w)) : Calls Try.prog f args w (OnePost R' w) := by rw [← h]; exact hc

/-- What holds at the head of each round. -/
def RRel (w0 : World) (cb : Nat) (zs : List Int) (xs : List AOp) (ov gv i : Value) (wr : World) : Prop :=
  ∃ (k : Nat) (out got : List Int) (go : Nat) (rest : List Value) (r c : Int), k ≤ xs.length ∧ i = .int .i64 k ∧ ov = .slice (some ⟨go, 0, none⟩) out.length (out.length + rest.length) ∧ RP w0 cb out got gv go rest r c wr ∧ out.length = zs.length ∧ chkA out = 0 ∧
    (0 ≤ r ∧ r ≤ 1601 * k) ∧ (0 ≤ c ∧ c ≤ 1601 * k) ∧ got.length ≤ k ∧ plays zs [] 0 0 0 xs = plays out got r c k (xs.drop k)
theorem rrel_next {w0 wb : World} {cb k go : Nat} {zs out got : List Int} {xs : List AOp} {x : AOp} {r c : Int} {gv ov : Value} {rest : List Value} (hx : xs[k]? = some x) (hl : zs.length ≤ 1601) (ho : out.length = zs.length) (hk : chkA out = 0) (hr : 0 ≤ r ∧ r ≤ 1601 * k) (hc : 0 ≤ c ∧ c ≤ 1601 * k) (hg : got.length ≤ k) (hp : plays zs [] 0 0 0 xs = plays out got r c k (xs.drop k)) (he : opE out.length x = 0)
    (hov : ov = .slice (some ⟨go, 0, none⟩) (opOut out x).length ((opOut out x).length + rest.length)) (h : RP w0 cb (opOut out x) (got ++ opGot out x) gv go rest (r + opR x) (c + opW x) wb) : RRel w0 cb zs xs ov gv (.int .i64 ((k : Int) + 1)) wb := by
  have hb := opR_bound he (by omega)
  have h1 := opGot_le out x
  have hlt := (List.getElem?_eq_some_iff.1 hx).1
  refine ⟨k + 1, opOut out x, got ++ opGot out x, go, rest, r + opR x, c + opW x, by omega, by go_num, hov, h, by rw [opOut_length _ _ he]; exact ho, chk_keeps hk (opOut_length _ _ he) (opOut_first _ _ he), ⟨by omega, by omega⟩, ⟨by omega, by omega⟩, by rw [List.length_append]; omega, ?_⟩
  rw [hp, drop_some hx, plays, if_pos he]
theorem plays_stop {zs out got : List Int} {r c : Int} {k : Nat} {x : AOp} {xs : List AOp} {e : Int} (hx : xs[k]? = some x) (hp : plays zs [] 0 0 0 xs = plays out got r c k (xs.drop k)) (he : opE out.length x = e) (h0 : e ≠ 0) : plays zs [] 0 0 0 xs = ⟨[], [], 0, 0, k, e⟩ := by
  subst he
  rw [hp, drop_some hx, plays, if_neg h0]

set_option maxHeartbeats 1000000 in
theorem rplay_check (zs : List Int) (a : Option Addr) (cap : Nat) (l : Value) (x : Int) (w : World) (hx : x ≠ 0) (hc : ∀ W : World, Below w.heap.size w W → Calls Try.prog 30 #[.slice a zs.length cap] W fun e w' => e = .returned (.int .i64 x) ∧ W = w') :
    Calls Try.prog 12 #[.slice a zs.length cap, l] w (PlayPost ⟨[], [], 0, 0, 0, x⟩ w) := by
  have hx' : (x != 0) = true := by simpa using hx
  have HC := Lib.hid hc
  clear hc hx
  go_enter Try.func12, Try.ntmps12
  go_wp2_with (first | (go_at_call 30; refine (HC.out _ (new_below _ _)).mono ?_; rintro e w1 ⟨rfl, rfl⟩))
  refine bodyPost_ret (v := .tuple #[.slice none 0 0, .slice none 0 0, .agg #[.int .i64 0, .int .i64 0], .int .i64 0, .int .i64 x]) (by simp [results, Try.results12, go_sem]) rfl ⟨_, _, rfl, own_nil _ _, own_nil _ _, ?_⟩
  (repeat (first | exact Below.refl _ _ | (refine below_new ?_ (Nat.le_refl _) _) | (refine below_drewN ?_ _) | (refine Below.drew ?_) | (refine below_call (by assumption) ?_ (Nat.le_refl _)) | (refine below_set ?_ (by simp) _)))
set_option maxHeartbeats 1000000 in
theorem rplay_long (zs : List Int) (a b : Option Addr) (cap n m : Nat) (w : World) (hn : 500 < n) (hc : ∀ W : World, Below w.heap.size w W → Calls Try.prog 30 #[.slice a zs.length cap] W fun e w' => e = .returned (.int .i64 0) ∧ W = w') :
    Calls Try.prog 12 #[.slice a zs.length cap, .slice b n m] w (PlayPost ⟨[], [], 0, 0, -1, 3⟩ w) := by
  have HC := Lib.hid hc
  clear hc
  go_enter Try.func12, Try.ntmps12
  go_wp2_with (first | (go_at_call 30; refine (HC.out _ (new_below _ _)).mono ?_; rintro e w1 ⟨rfl, rfl⟩))
  refine bodyPost_ret (v := .tuple #[.slice none 0 0, .slice none 0 0, .agg #[.int .i64 0, .int .i64 0], .int .i64 (-1), .int .i64 3]) (by simp [results, Try.results12, go_sem]) rfl ⟨_, _, rfl, own_nil _ _, own_nil _ _, ?_⟩
  (repeat (first | exact Below.refl _ _ | (refine below_new ?_ (Nat.le_refl _) _) | (refine below_drewN ?_ _) | (refine Below.drew ?_) | (refine below_call (by assumption) ?_ (Nat.le_refl _)) | (refine below_set ?_ (by simp) _)))

set_option maxRecDepth 100000 in
set_option maxHeartbeats 16000000 in
theorem rplay_some (zs : List Int) (xs : List AOp) (zb off cap lb lo lc : Nat) (w : World) (h0 : 0 < zs.length) (hl : zs.length ≤ 1601) (hz : zb < w.heap.size) (hzc : ∀ i : Nat, i < zs.length → w.cell? ⟨zb, off + i, none⟩ = some (.int .u64 (zs.getD i 0))) (hv : Words w (.slice (some ⟨zb, off, none⟩) zs.length cap) zs) (hck : chkA zs = 0) (hn : xs.length ≤ 500) (hlb : lb < w.heap.size)
    (hx : ∀ (i : Nat) (x : AOp), xs[i]? = some x → w.cell? ⟨lb, lo + i * 5, none⟩ = some (.int .i64 x.k) ∧ w.cell? ⟨lb, lo + i * 5 + 1, none⟩ = some (.int .i64 x.a) ∧ w.cell? ⟨lb, lo + i * 5 + 2, none⟩ = some (.int .i64 x.b) ∧ w.cell? ⟨lb, lo + i * 5 + 3, none⟩ = some (.int .i64 x.n) ∧ w.cell? ⟨lb, lo + i * 5 + 4, none⟩ = some (.int .u64 x.v)) :
    Calls Try.prog 12 #[.slice (some ⟨zb, off, none⟩) zs.length cap, .slice (some ⟨lb, lo, none⟩) xs.length lc] w (PlayPost (plays zs [] 0 0 0 xs) w) := by
  obtain ⟨i0, hi0, hz0, hz1, hz2⟩ := info_parts info32
  have hb0 := new_below w (.cells #[.int .i64 0, .int .i64 0] 26)
  have HV := Lib.hid (words_below hb0 hv)
  have HX := Lib.hid hx
  have HK := Lib.hid hck
  have hlt : ¬ 500 < xs.length := by omega
  have d60 : (w.alloc (.cells #[.int .i64 0, .int .i64 0] 26)).cell? ⟨w.heap.size, 0, none⟩ = some (.int .i64 0) := by simp
  have d61 : (w.alloc (.cells #[.int .i64 0, .int .i64 0] 26)).cell? ⟨w.heap.size, 1, none⟩ = some (.int .i64 0) := by simp
  have g60 : (w.alloc (.cells #[.int .i64 0, .int .i64 0] 26)).frozen? ⟨w.heap.size, 0, none⟩ = false := by simp
  have g61 : (w.alloc (.cells #[.int .i64 0, .int .i64 0] 26)).frozen? ⟨w.heap.size, 1, none⟩ = false := by simp
  have zsz : (w.alloc (.cells #[.int .i64 0, .int .i64 0] 26)).heap.size = w.heap.size + 1 := by simp
  obtain ⟨g, rest, W, hrun, hmax, hrow⟩ := clone_run zs zb off cap (w.alloc (.cells #[.int .i64 0, .int .i64 0] 26)) h0 (by omega) (by omega) (fun i hi => (hb0.cell (p := ⟨zb, off + i, none⟩) hz).trans (hzc i hi))
  rw [zsz] at hrun
  have HR0 := Lib.hid hrun
  have RPS : Hid (RP (w.alloc (.cells #[.int .i64 0, .int .i64 0] 26)) W.heap.size zs [] (.slice none 0 0) g rest 0 0 (W.alloc (.cells #[.int .i64 0, .int .i64 0] 26))) :=
    ⟨by rw [Below.heap_alloc _ _ _ (lt_of_block hrow.1)]; exact hrow.1, hmax, World.ownsRow_nil _ _ _ _, by simp [Value.ownBlock], Nat.ne_of_lt (lt_of_block hrow.1), hrow.2.2, (MapKept.heap_alloc W _).1, hrow.2.1.size, hrow.2.1.alloc hrow.2.1.size _⟩
  have HB0 := Lib.hid hb0
  have D := Lib.hid (And.intro (And.intro d60 d61) (And.intro g60 g61))
  have ZSZ := Lib.hid zsz
  clear hx hck hv hzc hrun hmax hrow hb0 d60 d61 g60 g61 zsz
  go_enter Try.func12, Try.ntmps12
  go_wp2_with fail
  refine (rcheck_val _ HV.out HK.out).mono ?_
  rintro e w' ⟨rfl, rfl⟩
  go_wp2_with (at_builtin; refine wpList_app rfl (.tmp 29) (.tmp 30) rfl rfl rfl rfl HR0.out ?_)
  generalize hw0 : w.alloc (.cells #[.int .i64 0, .int .i64 0] 26) = w0 at *
  have HW0 := Lib.hid hw0
  clear hw0
  go_loopw [10, 11, 13] (fun ov gv i wr => RRel w0 W.heap.size zs xs ov gv i wr) (fun _ _ i _ => xs.length - (intOf i).toNat)
  case atStart => exact ⟨0, zs, [], g, rest, 0, 0, Nat.zero_le _, rfl, rfl, RPS.out, rfl, HK.out, by simp, by simp, by simp, by simp⟩
  case round =>
    clear RPS
    obtain ⟨k, out, got, go, rest', r, c, hk, rfl, rfl, hrp, ho, hco, hr, hc, hg, hpp⟩ := hrel
    have RPR := Lib.hid hrp
    have HO := Lib.hid ho
    have HCK := Lib.hid hco
    have HPP := Lib.hid hpp
    have hol : out.length ≤ 1601 := by omega
    have hopos : 0 < out.length := by omega
    have hlw : w.heap.size < w0.heap.size := by rw [ZSZ.out]; exact Nat.lt_succ_self _
    clear hrp ho hco hpp
    by_cases hkl : k < xs.length
    · obtain ⟨x, hxk⟩ : ∃ x, xs[k]? = some x := ⟨xs[k], by simp [hkl]⟩
      have HXK := Lib.hid hxk
      obtain ⟨e0, e1, e2, e3, e4⟩ := HX.out k x hxk
      have bw := RPR.out.bel
      have hlb0 : lb < w0.heap.size := by have := hlw; omega
      have y0 := (bw.cell (p := ⟨lb, lo + k * 5, none⟩) hlb0).trans ((HB0.out.cell (p := ⟨lb, lo + k * 5, none⟩) hlb).trans e0)
      have y1 := (bw.cell (p := ⟨lb, lo + k * 5 + 1, none⟩) hlb0).trans ((HB0.out.cell (p := ⟨lb, lo + k * 5 + 1, none⟩) hlb).trans e1)
      have y2 := (bw.cell (p := ⟨lb, lo + k * 5 + 2, none⟩) hlb0).trans ((HB0.out.cell (p := ⟨lb, lo + k * 5 + 2, none⟩) hlb).trans e2)
      have y3 := (bw.cell (p := ⟨lb, lo + k * 5 + 3, none⟩) hlb0).trans ((HB0.out.cell (p := ⟨lb, lo + k * 5 + 3, none⟩) hlb).trans e3)
      have y4 := (bw.cell (p := ⟨lb, lo + k * 5 + 4, none⟩) hlb0).trans ((HB0.out.cell (p := ⟨lb, lo + k * 5 + 4, none⟩) hlb).trans e4)
      clear hxk e0 e1 e2 e3 e4 bw
      obtain ⟨xk, xa, xb, xn, xv⟩ := x
      simp only at y0 y1 y2 y3 y4
      by_cases k1 : xk = 1
      · subst k1
        have RA := Lib.hid (rp_alloc RPR.out (.cells #[.int .i64 1, .int .i64 xa, .int .i64 xb, .int .i64 xn, .int .u64 xv] 35))
        have WA := Lib.hid (own_words (rp_own RA.out).1)
        have BA : Hid (Below w0.heap.size w0 (wr.alloc (.cells #[.int .i64 1, .int .i64 xa, .int .i64 xb, .int .i64 xn, .int .u64 xv] 35))) := RA.out.bel
        by_cases he : opE out.length ⟨1, xa, xb, xn, xv⟩ = 0
        · have HE := Lib.hid he
          have hp : partB out.length xa 1 = true := by
            cases hp : partB out.length xa 1
            · simp [opE, hp] at he
            · rfl
          have HG : Hid (getR out xa = (out.getD xa.toNat 0, 0)) := by
            show getR out xa = _
            unfold getR; rw [if_neg (by simpa using HCK.out), hp]; rfl
          clear he hp
          go_wp2_with fail
          refine (rget_val _ WA.out HG.out).mono ?_
          rintro e w' ⟨rfl, rfl⟩
          generalize hy : out.getD xa.toNat 0 = y at *
          have HYY := Lib.hid hy
          clear hy
          generalize wr.alloc (.cells #[.int .i64 1, .int .i64 xa, .int .i64 xb, .int .i64 xn, .int .u64 xv] 35) = V9 at *
          have hm1 : got.length + 1 ≤ maxLen := by unfold maxLen; omega
          have hcs : W.heap.size + 1 ≤ V9.heap.size := lt_of_block RA.out.hc
          go_wp2_with (at_builtin; refine wpList_append_lies _ rfl (.tmp 57) (.tmp 59) 22 rfl (W.heap.size + 1) 32 i0 (.int .u64 0) 1 8 Try.underlying22 hi0 hz0 hz1 hz2 rfl (by decide) _ got.length (us got) rfl (RA.out.own.alloc _) ⟨V9.heap.size, 0, none⟩ 1 1 [.int .u64 y] rfl rfl ?c1 ?c2 (by decide) hm1 ?c4 ?c5 (V9.heap.size + 1) (by simp) ?_)
          case c1 => intro j e9 hj; match j, hj with | 0, hj => simp at hj; subst hj; simp [Addr.add]
          case c2 => intro e9 he9; simp at he9; subst he9; rfl
          case c4 => omega
          case c5 => simp; omega
          intro g9 cap9 w9 hown hgrow hat _
          have RG := Lib.hid (rp_got (rp_alloc RA.out (.cells #[.int .u64 y] 32)) hgrow hown (by simpa using hat))
          clear hown hgrow hat
          obtain ⟨f0, f1, f2, f3, f4⟩ := rp_cells RG.out
          go_wp2
          refine ⟨rrel_next HXK.out hl HO.out HCK.out hr hc hg HPP.out HE.out rfl ?_, by simp [intOf]; omega⟩
          have q := rp_reads RG.out (r + 1)
          rw [← HYY.out, ← Int.add_zero c] at q
          exact q
        · have HE : Hid (opE out.length ⟨1, xa, xb, xn, xv⟩ = 7) := by
            show opE out.length ⟨1, xa, xb, xn, xv⟩ = 7
            rcases opE_cases out.length ⟨1, xa, xb, xn, xv⟩ with h | h | h
            · exact absurd h he
            · exact h
            · simp [opE] at h; split at h <;> simp at h
          have hp : partB out.length xa 1 = false := by
            cases hp : partB out.length xa 1
            · rfl
            · simp [opE, hp] at he
          have HG : Hid (getR out xa = (0, 7)) := by
            show getR out xa = _
            unfold getR; rw [if_neg (by simpa using HCK.out), hp]; rfl
          clear he hp
          have bw := RA.out.bel
          have d0 := (bw.cell (p := ⟨w.heap.size, 0, none⟩) hlw).trans D.out.1.1
          have d1 := (bw.cell (p := ⟨w.heap.size, 1, none⟩) hlw).trans D.out.1.2
          have g0 := (bw.frozen (p := ⟨w.heap.size, 0, none⟩) hlw).trans D.out.2.1
          have g1 := (bw.frozen (p := ⟨w.heap.size, 1, none⟩) hlw).trans D.out.2.2
          have q1 : ¬ W.heap.size = w.heap.size := by have := RPR.out.s2; omega
          have q2 : ¬ w.heap.size = W.heap.size := fun h => q1 h.symm
          have BW : Hid (Below w.heap.size w _) := HB0.out.trans (bw.mono (Nat.le_of_lt hlw))
          have hsw := Nat.lt_of_lt_of_le hlw bw.size
          clear bw
          go_wp2_with fail
          refine (rget_val _ WA.out HG.out).mono ?_
          rintro e w' ⟨rfl, rfl⟩
          go_wp2
          rw [plays_stop HXK.out HPP.out HE.out (by decide)]
          refine bodyPost_ret (v := .tuple #[.slice none 0 0, .slice none 0 0, .agg #[.int .i64 0, .int .i64 0], .int .i64 k, .int .i64 7]) (by simp [results, Try.results12, go_sem, d0, d1]) rfl ⟨_, _, rfl, own_nil _ _, own_nil _ _, ?_⟩
          exact (below_set (p := ⟨w.heap.size, 1, none⟩) (below_set (p := ⟨w.heap.size, 0, none⟩) BW.out (Nat.le_refl _) _) (Nat.le_refl _) _)
      · by_cases k2 : xk = 2
        · subst k2
          have RA := Lib.hid (rp_alloc RPR.out (.cells #[.int .i64 2, .int .i64 xa, .int .i64 xb, .int .i64 xn, .int .u64 xv] 35))
          have WA := Lib.hid (own_words (rp_own RA.out).1)
          have BA : Hid (Below w0.heap.size w0 (wr.alloc (.cells #[.int .i64 2, .int .i64 xa, .int .i64 xb, .int .i64 xn, .int .u64 xv] 35))) := RA.out.bel
          by_cases he : opE out.length ⟨2, xa, xb, xn, xv⟩ = 0
          · have HE := Lib.hid he
            have hbd := opR_bound he (by omega)
            simp [opR, opW] at hbd
            have HR : Hid (playR out [⟨2, xa, 0, 0, xv⟩] = ⟨opOut out ⟨2, xa, xb, xn, xv⟩, opGot out ⟨2, xa, xb, xn, xv⟩, opR ⟨2, xa, xb, xn, xv⟩, opW ⟨2, xa, xb, xn, xv⟩, 0, 0⟩) := one_ok HCK.out he
            have HLN := Lib.hid (opOut_length out ⟨2, xa, xb, xn, xv⟩ he)
            clear he
            go_wp2_with fail
            refine (one_val HR.out (rset_any out _ _ _ _ WA.out)).mono ?_
            rintro e w5 ⟨v5, rfl, o5, hb5⟩
            obtain ⟨go', rest', hv5, hrn⟩ := rp_next RA.out hb5 o5 (by rw [HLN.out]; omega)
            have RN := Lib.hid hrn
            have BY := Lib.hid hb5
            obtain ⟨f0, f1, f2, f3, f4⟩ := rp_cells hrn
            have x3 := (hb5.cell (p := ⟨wr.heap.size, 3, none⟩) (by simp)).trans (show (wr.alloc (.cells #[.int .i64 2, .int .i64 xa, .int .i64 xb, .int .i64 xn, .int .u64 xv] 35)).cell? ⟨wr.heap.size, 3, none⟩ = some (.int .i64 xn) by simp)
            have x3z : wr.heap.size < w5.heap.size := by have := hb5.size; simp at this; omega
            have xne : ¬ W.heap.size = wr.heap.size := by have := lt_of_block RPR.out.hc; omega
            have xne2 : ¬ wr.heap.size = W.heap.size := fun h => xne h.symm
            simp only at hv5
            subst hv5
            clear hrn o5 hb5
            go_wp2
            refine ⟨rrel_next HXK.out hl HO.out HCK.out hr hc hg HPP.out HE.out rfl ?_, by simp [intOf]; omega⟩
            have q := rp_writes RN.out (c + 1)
            rw [← List.append_nil got, ← Int.add_zero r] at q
            exact q
          · have HE : Hid (opE out.length ⟨2, xa, xb, xn, xv⟩ = 7) := by
              show opE out.length ⟨2, xa, xb, xn, xv⟩ = 7
              rcases opE_cases out.length ⟨2, xa, xb, xn, xv⟩ with h | h | h
              · exact absurd h he
              · exact h
              · simp [opE] at h; split at h <;> simp at h
            have HR : Hid (playR out [⟨2, xa, 0, 0, xv⟩] = ⟨[], [], 0, 0, 0, 7⟩) := one_err HCK.out HE.out (by decide)
            clear he
            go_wp2_with fail
            refine (one_val HR.out (rset_any out _ _ _ _ WA.out)).mono ?_
            rintro e w5 ⟨v5, rfl, o5, hb5⟩
            obtain ⟨f0, f1, f2, f3, f4⟩ := rp_cells (rp_call RA.out hb5)
            have RN := Lib.hid (rp_call RA.out hb5)
            have x3 := (hb5.cell (p := ⟨wr.heap.size, 3, none⟩) (by simp)).trans (show (wr.alloc (.cells #[.int .i64 2, .int .i64 xa, .int .i64 xb, .int .i64 xn, .int .u64 xv] 35)).cell? ⟨wr.heap.size, 3, none⟩ = some (.int .i64 xn) by simp)
            have x3z : wr.heap.size < w5.heap.size := by have := hb5.size; simp at this; omega
            have xne : ¬ W.heap.size = wr.heap.size := by have := lt_of_block RPR.out.hc; omega
            have xne2 : ¬ wr.heap.size = W.heap.size := fun h => xne h.symm
            clear o5 hb5
            have bw := RN.out.bel
            have d0 := (bw.cell (p := ⟨w.heap.size, 0, none⟩) hlw).trans D.out.1.1
            have d1 := (bw.cell (p := ⟨w.heap.size, 1, none⟩) hlw).trans D.out.1.2
            have g0 := (bw.frozen (p := ⟨w.heap.size, 0, none⟩) hlw).trans D.out.2.1
            have g1 := (bw.frozen (p := ⟨w.heap.size, 1, none⟩) hlw).trans D.out.2.2
            have q1 : ¬ W.heap.size = w.heap.size := by have := RPR.out.s2; omega
            have q2 : ¬ w.heap.size = W.heap.size := fun h => q1 h.symm
            have BW : Hid (Below w.heap.size w _) := HB0.out.trans (bw.mono (Nat.le_of_lt hlw))
            have hsw := Nat.lt_of_lt_of_le hlw bw.size
            clear bw
            have HCBW : Hid (w.heap.size ≤ W.heap.size) := by have := RPR.out.s2; show _ ≤ _; omega
            go_wp2
            rw [plays_stop HXK.out HPP.out HE.out (by decide)]
            refine bodyPost_ret (v := .tuple #[.slice none 0 0, .slice none 0 0, .agg #[.int .i64 0, .int .i64 0], .int .i64 k, .int .i64 7]) (by simp [results, Try.results12, go_sem, d0, d1]) rfl ⟨_, _, rfl, own_nil _ _, own_nil _ _, ?_⟩
            exact (below_set (p := ⟨w.heap.size, 1, none⟩) (below_set (p := ⟨w.heap.size, 0, none⟩) (below_set (p := ⟨W.heap.size, 1, none⟩) BW.out HCBW.out _) (Nat.le_refl _) _) (Nat.le_refl _) _)
        · by_cases k3 : xk = 3
          · subst k3
            have RA := Lib.hid (rp_alloc RPR.out (.cells #[.int .i64 3, .int .i64 xa, .int .i64 xb, .int .i64 xn, .int .u64 xv] 35))
            have WA := Lib.hid (own_words (rp_own RA.out).1)
            have BA : Hid (Below w0.heap.size w0 (wr.alloc (.cells #[.int .i64 3, .int .i64 xa, .int .i64 xb, .int .i64 xn, .int .u64 xv] 35))) := RA.out.bel
            by_cases he : opE out.length ⟨3, xa, xb, xn, xv⟩ = 0
            · have HE := Lib.hid he
              have hbd := opR_bound he (by omega)
              simp [opR, opW] at hbd
              have HR : Hid (playR out [⟨3, xa, xb, xn, 0⟩] = ⟨opOut out ⟨3, xa, xb, xn, xv⟩, opGot out ⟨3, xa, xb, xn, xv⟩, opR ⟨3, xa, xb, xn, xv⟩, opW ⟨3, xa, xb, xn, xv⟩, 0, 0⟩) := one_ok HCK.out he
              have HLN := Lib.hid (opOut_length out ⟨3, xa, xb, xn, xv⟩ he)
              clear he
              go_wp2_with fail
              refine (one_val HR.out (rcopy_any out _ _ _ _ _ WA.out)).mono ?_
              rintro e w5 ⟨v5, rfl, o5, hb5⟩
              obtain ⟨go', rest', hv5, hrn⟩ := rp_next RA.out hb5 o5 (by rw [HLN.out]; omega)
              have RN := Lib.hid hrn
              have BY := Lib.hid hb5
              obtain ⟨f0, f1, f2, f3, f4⟩ := rp_cells hrn
              have x3 := (hb5.cell (p := ⟨wr.heap.size, 3, none⟩) (by simp)).trans (show (wr.alloc (.cells #[.int .i64 3, .int .i64 xa, .int .i64 xb, .int .i64 xn, .int .u64 xv] 35)).cell? ⟨wr.heap.size, 3, none⟩ = some (.int .i64 xn) by simp)
              have x3z : wr.heap.size < w5.heap.size := by have := hb5.size; simp at this; omega
              have xne : ¬ W.heap.size = wr.heap.size := by have := lt_of_block RPR.out.hc; omega
              have xne2 : ¬ wr.heap.size = W.heap.size := fun h => xne h.symm
              simp only at hv5
              subst hv5
              clear hrn o5 hb5
              go_wp2_with fail
              go_region
              go_wp2
              refine ⟨rrel_next HXK.out hl HO.out HCK.out hr hc hg HPP.out HE.out rfl ?_, by simp [intOf]; omega⟩
              have q := rp_writes (rp_reads (rp_drew RN.out) (r + xn)) (c + xn)
              rw [← List.append_nil got] at q
              exact q
            · have HE : Hid (opE out.length ⟨3, xa, xb, xn, xv⟩ = 7) := by
                show opE out.length ⟨3, xa, xb, xn, xv⟩ = 7
                rcases opE_cases out.length ⟨3, xa, xb, xn, xv⟩ with h | h | h
                · exact absurd h he
                · exact h
                · simp [opE] at h; split at h <;> simp at h
              have HR : Hid (playR out [⟨3, xa, xb, xn, 0⟩] = ⟨[], [], 0, 0, 0, 7⟩) := one_err HCK.out HE.out (by decide)
              clear he
              go_wp2_with fail
              refine (one_val HR.out (rcopy_any out _ _ _ _ _ WA.out)).mono ?_
              rintro e w5 ⟨v5, rfl, o5, hb5⟩
              obtain ⟨f0, f1, f2, f3, f4⟩ := rp_cells (rp_call RA.out hb5)
              have RN := Lib.hid (rp_call RA.out hb5)
              have x3 := (hb5.cell (p := ⟨wr.heap.size, 3, none⟩) (by simp)).trans (show (wr.alloc (.cells #[.int .i64 3, .int .i64 xa, .int .i64 xb, .int .i64 xn, .int .u64 xv] 35)).cell? ⟨wr.heap.size, 3, none⟩ = some (.int .i64 xn) by simp)
              have x3z : wr.heap.size < w5.heap.size := by have := hb5.size; simp at this; omega
              have xne : ¬ W.heap.size = wr.heap.size := by have := lt_of_block RPR.out.hc; omega
              have xne2 : ¬ wr.heap.size = W.heap.size := fun h => xne h.symm
              clear o5 hb5
              have bw := RN.out.bel
              have d0 := (bw.cell (p := ⟨w.heap.size, 0, none⟩) hlw).trans D.out.1.1
              have d1 := (bw.cell (p := ⟨w.heap.size, 1, none⟩) hlw).trans D.out.1.2
              have g0 := (bw.frozen (p := ⟨w.heap.size, 0, none⟩) hlw).trans D.out.2.1
              have g1 := (bw.frozen (p := ⟨w.heap.size, 1, none⟩) hlw).trans D.out.2.2
              have q1 : ¬ W.heap.size = w.heap.size := by have := RPR.out.s2; omega
              have q2 : ¬ w.heap.size = W.heap.size := fun h => q1 h.symm
              have BW : Hid (Below w.heap.size w _) := HB0.out.trans (bw.mono (Nat.le_of_lt hlw))
              have hsw := Nat.lt_of_lt_of_le hlw bw.size
              clear bw
              have HCBW : Hid (w.heap.size ≤ W.heap.size) := by have := RPR.out.s2; show _ ≤ _; omega
              go_wp2_with fail
              go_region
              go_wp2
              rw [plays_stop HXK.out HPP.out HE.out (by decide)]
              refine bodyPost_ret (v := .tuple #[.slice none 0 0, .slice none 0 0, .agg #[.int .i64 0, .int .i64 0], .int .i64 k, .int .i64 7]) (by simp [results, Try.results12, go_sem, d0, d1]) rfl ⟨_, _, rfl, own_nil _ _, own_nil _ _, ?_⟩
              exact (below_set (p := ⟨w.heap.size, 1, none⟩) (below_set (p := ⟨w.heap.size, 0, none⟩) (below_set (p := ⟨W.heap.size, 1, none⟩) (below_set (p := ⟨W.heap.size, 0, none⟩) BW.out HCBW.out _) HCBW.out _) (Nat.le_refl _) _) (Nat.le_refl _) _).drew
          · by_cases k4 : xk = 4
            · subst k4
              have RA := Lib.hid (rp_alloc RPR.out (.cells #[.int .i64 4, .int .i64 xa, .int .i64 xb, .int .i64 xn, .int .u64 xv] 35))
              have WA := Lib.hid (own_words (rp_own RA.out).1)
              have BA : Hid (Below w0.heap.size w0 (wr.alloc (.cells #[.int .i64 4, .int .i64 xa, .int .i64 xb, .int .i64 xn, .int .u64 xv] 35))) := RA.out.bel
              by_cases he : opE out.length ⟨4, xa, xb, xn, xv⟩ = 0
              · have HE := Lib.hid he
                have hbd := opR_bound he (by omega)
                simp [opR, opW] at hbd
                have HR : Hid (playR out [⟨4, xa, 0, xn, 0⟩] = ⟨opOut out ⟨4, xa, xb, xn, xv⟩, opGot out ⟨4, xa, xb, xn, xv⟩, opR ⟨4, xa, xb, xn, xv⟩, opW ⟨4, xa, xb, xn, xv⟩, 0, 0⟩) := one_ok HCK.out he
                have HLN := Lib.hid (opOut_length out ⟨4, xa, xb, xn, xv⟩ he)
                clear he
                go_wp2_with fail
                refine (one_val HR.out (rclear_any out _ _ _ _ WA.out)).mono ?_
                rintro e w5 ⟨v5, rfl, o5, hb5⟩
                obtain ⟨go', rest', hv5, hrn⟩ := rp_next RA.out hb5 o5 (by rw [HLN.out]; omega)
                have RN := Lib.hid hrn
                have BY := Lib.hid hb5
                obtain ⟨f0, f1, f2, f3, f4⟩ := rp_cells hrn
                have x3 := (hb5.cell (p := ⟨wr.heap.size, 3, none⟩) (by simp)).trans (show (wr.alloc (.cells #[.int .i64 4, .int .i64 xa, .int .i64 xb, .int .i64 xn, .int .u64 xv] 35)).cell? ⟨wr.heap.size, 3, none⟩ = some (.int .i64 xn) by simp)
                have x3z : wr.heap.size < w5.heap.size := by have := hb5.size; simp at this; omega
                have xne : ¬ W.heap.size = wr.heap.size := by have := lt_of_block RPR.out.hc; omega
                have xne2 : ¬ wr.heap.size = W.heap.size := fun h => xne h.symm
                simp only at hv5
                subst hv5
                clear hrn o5 hb5
                go_wp2
                refine ⟨rrel_next HXK.out hl HO.out HCK.out hr hc hg HPP.out HE.out rfl ?_, by simp [intOf]; omega⟩
                have q := rp_writes RN.out (c + xn)
                rw [← List.append_nil got, ← Int.add_zero r] at q
                exact q
              · have HE : Hid (opE out.length ⟨4, xa, xb, xn, xv⟩ = 7) := by
                  show opE out.length ⟨4, xa, xb, xn, xv⟩ = 7
                  rcases opE_cases out.length ⟨4, xa, xb, xn, xv⟩ with h | h | h
                  · exact absurd h he
                  · exact h
                  · simp [opE] at h; split at h <;> simp at h
                have HR : Hid (playR out [⟨4, xa, 0, xn, 0⟩] = ⟨[], [], 0, 0, 0, 7⟩) := one_err HCK.out HE.out (by decide)
                clear he
                go_wp2_with fail
                refine (one_val HR.out (rclear_any out _ _ _ _ WA.out)).mono ?_
                rintro e w5 ⟨v5, rfl, o5, hb5⟩
                obtain ⟨f0, f1, f2, f3, f4⟩ := rp_cells (rp_call RA.out hb5)
                have RN := Lib.hid (rp_call RA.out hb5)
                have x3 := (hb5.cell (p := ⟨wr.heap.size, 3, none⟩) (by simp)).trans (show (wr.alloc (.cells #[.int .i64 4, .int .i64 xa, .int .i64 xb, .int .i64 xn, .int .u64 xv] 35)).cell? ⟨wr.heap.size, 3, none⟩ = some (.int .i64 xn) by simp)
                have x3z : wr.heap.size < w5.heap.size := by have := hb5.size; simp at this; omega
                have xne : ¬ W.heap.size = wr.heap.size := by have := lt_of_block RPR.out.hc; omega
                have xne2 : ¬ wr.heap.size = W.heap.size := fun h => xne h.symm
                clear o5 hb5
                have bw := RN.out.bel
                have d0 := (bw.cell (p := ⟨w.heap.size, 0, none⟩) hlw).trans D.out.1.1
                have d1 := (bw.cell (p := ⟨w.heap.size, 1, none⟩) hlw).trans D.out.1.2
                have g0 := (bw.frozen (p := ⟨w.heap.size, 0, none⟩) hlw).trans D.out.2.1
                have g1 := (bw.frozen (p := ⟨w.heap.size, 1, none⟩) hlw).trans D.out.2.2
                have q1 : ¬ W.heap.size = w.heap.size := by have := RPR.out.s2; omega
                have q2 : ¬ w.heap.size = W.heap.size := fun h => q1 h.symm
                have BW : Hid (Below w.heap.size w _) := HB0.out.trans (bw.mono (Nat.le_of_lt hlw))
                have hsw := Nat.lt_of_lt_of_le hlw bw.size
                clear bw
                have HCBW : Hid (w.heap.size ≤ W.heap.size) := by have := RPR.out.s2; show _ ≤ _; omega
                go_wp2
                rw [plays_stop HXK.out HPP.out HE.out (by decide)]
                refine bodyPost_ret (v := .tuple #[.slice none 0 0, .slice none 0 0, .agg #[.int .i64 0, .int .i64 0], .int .i64 k, .int .i64 7]) (by simp [results, Try.results12, go_sem, d0, d1]) rfl ⟨_, _, rfl, own_nil _ _, own_nil _ _, ?_⟩
                exact (below_set (p := ⟨w.heap.size, 1, none⟩) (below_set (p := ⟨w.heap.size, 0, none⟩) (below_set (p := ⟨W.heap.size, 1, none⟩) BW.out HCBW.out _) (Nat.le_refl _) _) (Nat.le_refl _) _)
            · have RA := Lib.hid (rp_alloc RPR.out (.cells #[.int .i64 xk, .int .i64 xa, .int .i64 xb, .int .i64 xn, .int .u64 xv] 35))
              have HE : Hid (opE out.length ⟨xk, xa, xb, xn, xv⟩ = 2) := by
                show opE out.length ⟨xk, xa, xb, xn, xv⟩ = 2
                unfold opE
                rw [if_neg (by simp only; omega), if_neg (by simp only; omega), if_neg (by simp only; omega)]
              have b1 : (xk == 1) = false := by simpa using k1
              have b2 : (xk == 2) = false := by simpa using k2
              have b3 : (xk == 3) = false := by simpa using k3
              have b4 : (xk == 4) = false := by simpa using k4
              clear k1 k2 k3 k4
              have bw := RA.out.bel
              have d0 := (bw.cell (p := ⟨w.heap.size, 0, none⟩) hlw).trans D.out.1.1
              have d1 := (bw.cell (p := ⟨w.heap.size, 1, none⟩) hlw).trans D.out.1.2
              have g0 := (bw.frozen (p := ⟨w.heap.size, 0, none⟩) hlw).trans D.out.2.1
              have g1 := (bw.frozen (p := ⟨w.heap.size, 1, none⟩) hlw).trans D.out.2.2
              have q1 : ¬ W.heap.size = w.heap.size := by have := RPR.out.s2; omega
              have q2 : ¬ w.heap.size = W.heap.size := fun h => q1 h.symm
              have BW : Hid (Below w.heap.size w _) := HB0.out.trans (bw.mono (Nat.le_of_lt hlw))
              have hsw := Nat.lt_of_lt_of_le hlw bw.size
              clear bw
              go_wp2
              rw [plays_stop HXK.out HPP.out HE.out (by decide)]
              refine bodyPost_ret (v := .tuple #[.slice none 0 0, .slice none 0 0, .agg #[.int .i64 0, .int .i64 0], .int .i64 k, .int .i64 2]) (by simp [results, Try.results12, go_sem, d0, d1]) rfl ⟨_, _, rfl, own_nil _ _, own_nil _ _, ?_⟩
              exact (below_set (p := ⟨w.heap.size, 1, none⟩) (below_set (p := ⟨w.heap.size, 0, none⟩) BW.out (Nat.le_refl _) _) (Nat.le_refl _) _)
    · have HKE : Hid (k = xs.length) := (by omega : k = xs.length)
      have OO := Lib.hid (rp_own RPR.out)
      obtain ⟨f0, f1, f2, f3, f4⟩ := rp_cells RPR.out
      have bw := RPR.out.bel
      have d0 := (bw.cell (p := ⟨w.heap.size, 0, none⟩) hlw).trans D.out.1.1
      have d1 := (bw.cell (p := ⟨w.heap.size, 1, none⟩) hlw).trans D.out.1.2
      have g0 := (bw.frozen (p := ⟨w.heap.size, 0, none⟩) hlw).trans D.out.2.1
      have g1 := (bw.frozen (p := ⟨w.heap.size, 1, none⟩) hlw).trans D.out.2.2
      have q1 : ¬ W.heap.size = w.heap.size := by have := RPR.out.s2; omega
      have q2 : ¬ w.heap.size = W.heap.size := fun h => q1 h.symm
      have n1 : ¬ go = w.heap.size := by have := RPR.out.s1; omega
      have HN2 : Hid (u11.ownBlock ≠ some w.heap.size) := fun h8 => by have := (RPR.out.own.lt _ h8).1; have := RPR.out.s2; omega
      have BW : Hid (Below w.heap.size w wr) := HB0.out.trans (bw.mono (Nat.le_of_lt hlw))
      have hsw : w.heap.size < wr.heap.size := Nat.lt_of_lt_of_le hlw bw.size
      clear bw
      go_wp2_with fail
      go_region
      all_goals
        go_wp2
        have hpe : plays zs [] 0 0 0 xs = ⟨out, got, r, c, 0, 0⟩ := by rw [HPP.out, HKE.out, List.drop_of_length_le (Nat.le_refl _)]; rfl
        rw [hpe]
        refine bodyPost_ret (v := .tuple #[.slice (some ⟨go, 0, none⟩) out.length (out.length + rest'.length), u11, .agg #[.int .i64 r, .int .i64 c], .int .i64 0, .int .i64 0]) (by simp [results, Try.results12, go_sem, d0, d1]) rfl ⟨_, _, rfl, ?_, ?_, ?_⟩
        · exact own_set (own_set (own_base HB0.out.size OO.out.1) (by simp [Value.ownBlock]; exact n1) _) (by simp [Value.ownBlock]; exact n1) _
        · exact own_set (own_set (own_base HB0.out.size OO.out.2) HN2.out _) HN2.out _
        · exact (below_set (p := ⟨w.heap.size, 1, none⟩) (below_set (p := ⟨w.heap.size, 0, none⟩) BW.out (Nat.le_refl _) _) (Nat.le_refl _) _).drew

set_option maxRecDepth 100000 in
set_option maxHeartbeats 4000000 in
theorem rplay_none (zs : List Int) (zb off cap lc : Nat) (la : Option Addr) (w : World) (h0 : 0 < zs.length) (hl : zs.length ≤ 1601) (hz : zb < w.heap.size) (hzc : ∀ i : Nat, i < zs.length → w.cell? ⟨zb, off + i, none⟩ = some (.int .u64 (zs.getD i 0))) (hv : Words w (.slice (some ⟨zb, off, none⟩) zs.length cap) zs) (hck : chkA zs = 0) :
    Calls Try.prog 12 #[.slice (some ⟨zb, off, none⟩) zs.length cap, .slice la 0 lc] w (PlayPost (plays zs [] 0 0 0 []) w) := by
  have hb0 := new_below w (.cells #[.int .i64 0, .int .i64 0] 26)
  have HV := Lib.hid (words_below hb0 hv)
  have HK := Lib.hid hck
  have d60 : (w.alloc (.cells #[.int .i64 0, .int .i64 0] 26)).cell? ⟨w.heap.size, 0, none⟩ = some (.int .i64 0) := by simp
  have d61 : (w.alloc (.cells #[.int .i64 0, .int .i64 0] 26)).cell? ⟨w.heap.size, 1, none⟩ = some (.int .i64 0) := by simp
  have g60 : (w.alloc (.cells #[.int .i64 0, .int .i64 0] 26)).frozen? ⟨w.heap.size, 0, none⟩ = false := by simp
  have g61 : (w.alloc (.cells #[.int .i64 0, .int .i64 0] 26)).frozen? ⟨w.heap.size, 1, none⟩ = false := by simp
  have zsz : (w.alloc (.cells #[.int .i64 0, .int .i64 0] 26)).heap.size = w.heap.size + 1 := by simp
  obtain ⟨g, rest, W, hrun, hmax, hrow⟩ := clone_run zs zb off cap (w.alloc (.cells #[.int .i64 0, .int .i64 0] 26)) h0 (by omega) (by omega) (fun i hi => (hb0.cell (p := ⟨zb, off + i, none⟩) hz).trans (hzc i hi))
  rw [zsz] at hrun
  have HR0 := Lib.hid hrun
  have RPS : Hid (RP (w.alloc (.cells #[.int .i64 0, .int .i64 0] 26)) W.heap.size zs [] (.slice none 0 0) g rest 0 0 (W.alloc (.cells #[.int .i64 0, .int .i64 0] 26))) :=
    ⟨by rw [Below.heap_alloc _ _ _ (lt_of_block hrow.1)]; exact hrow.1, hmax, World.ownsRow_nil _ _ _ _, by simp [Value.ownBlock], Nat.ne_of_lt (lt_of_block hrow.1), hrow.2.2, (MapKept.heap_alloc W _).1, hrow.2.1.size, hrow.2.1.alloc hrow.2.1.size _⟩
  have HB0 := Lib.hid hb0
  have D := Lib.hid (And.intro (And.intro d60 d61) (And.intro g60 g61))
  have ZSZ := Lib.hid zsz
  clear hck hv hzc hrun hmax hrow hb0 d60 d61 g60 g61 zsz
  go_enter Try.func12, Try.ntmps12
  go_wp2_with fail
  refine (rcheck_val _ HV.out HK.out).mono ?_
  rintro e w' ⟨rfl, rfl⟩
  go_wp2_with (at_builtin; refine wpList_app rfl (.tmp 29) (.tmp 30) rfl rfl rfl rfl HR0.out ?_)
  generalize hw0 : w.alloc (.cells #[.int .i64 0, .int .i64 0] 26) = w0 at *
  have HW0 := Lib.hid hw0
  clear hw0
  have hlw : w.heap.size < w0.heap.size := by rw [ZSZ.out]; exact Nat.lt_succ_self _
  have OO := Lib.hid (rp_own RPS.out)
  obtain ⟨f0, f1, f2, f3, f4⟩ := rp_cells RPS.out
  have bw := RPS.out.bel
  have d0 := (bw.cell (p := ⟨w.heap.size, 0, none⟩) hlw).trans D.out.1.1
  have d1 := (bw.cell (p := ⟨w.heap.size, 1, none⟩) hlw).trans D.out.1.2
  have g0 := (bw.frozen (p := ⟨w.heap.size, 0, none⟩) hlw).trans D.out.2.1
  have g1 := (bw.frozen (p := ⟨w.heap.size, 1, none⟩) hlw).trans D.out.2.2
  have q1 : ¬ W.heap.size = w.heap.size := by have := RPS.out.s2; omega
  have q2 : ¬ w.heap.size = W.heap.size := fun h => q1 h.symm
  have n1 : ¬ g = w.heap.size := by have := RPS.out.s1; omega
  have HN2 : Hid ((Value.slice none 0 0).ownBlock ≠ some w.heap.size) := fun h8 => by have := (RPS.out.own.lt _ h8).1; have := RPS.out.s2; omega
  have BW : Hid (Below w.heap.size w (W.alloc (.cells #[.int .i64 0, .int .i64 0] 26))) := HB0.out.trans (bw.mono (Nat.le_of_lt hlw))
  have hsw : w.heap.size < (W.alloc (.cells #[.int .i64 0, .int .i64 0] 26)).heap.size := Nat.lt_of_lt_of_le hlw bw.size
  clear bw
  refine wp_loop_rounds 1 ?_
  rw [rounds_succ]
  go_wp2_with fail
  go_region
  all_goals
    go_wp2
    have hpe : plays zs [] 0 0 0 [] = ⟨zs, [], 0, 0, 0, 0⟩ := rfl
    rw [hpe]
    refine bodyPost_ret (v := .tuple #[.slice (some ⟨g, 0, none⟩) zs.length (zs.length + rest.length), (Value.slice none 0 0), .agg #[.int .i64 0, .int .i64 0], .int .i64 0, .int .i64 0]) (by simp [results, Try.results12, go_sem, d0, d1]) rfl ⟨_, _, rfl, ?_, ?_, ?_⟩
    · exact own_set (own_set (own_base HB0.out.size OO.out.1) (by simp [Value.ownBlock]; exact n1) _) (by simp [Value.ownBlock]; exact n1) _
    · exact own_set (own_set (own_base HB0.out.size OO.out.2) HN2.out _) HN2.out _
    · exact (below_set (p := ⟨w.heap.size, 1, none⟩) (below_set (p := ⟨w.heap.size, 0, none⟩) BW.out (Nat.le_refl _) _) (Nat.le_refl _) _).drew

theorem rplay_pub (zs : List Int) (xs : List AOp) (v l : Value) (w : World) (hv : Words w v zs) (hx : OpsAt w l xs) :
    Calls Try.prog 12 #[v, l] w (PlayPost (playR zs xs) w) := by
  obtain ⟨a, cap, rfl⟩ := words_slice hv
  have hck : ∀ W : World, Below w.heap.size w W → Calls Try.prog 30 #[.slice a zs.length cap] W fun e w' => e = .returned (.int .i64 (chkA zs)) ∧ W = w' := fun W hb => rcheck_any zs _ W (words_below hb hv)
  by_cases hc : chkA zs = 0
  · by_cases hn : 500 < xs.length
    · have hla : ∃ (b : Option Addr) (d : Nat), l = .slice b xs.length d := by
        obtain ⟨_, ⟨rfl, b, d, rfl⟩ | ⟨_, lb, lo, d, rfl, _⟩⟩ := hx
        · exact ⟨b, d, rfl⟩
        · exact ⟨_, d, rfl⟩
      obtain ⟨b, d, rfl⟩ := hla
      rw [hc] at hck
      unfold playR; rw [if_neg (by simpa using hc), if_pos hn]
      exact rplay_long zs a b cap _ d w hn hck
    · rw [playR_ok hc (by omega)]
      obtain ⟨l1, l2, _⟩ := chk_ok hc
      obtain ⟨zb, off, cap', e, h1, h2, h3⟩ := words_some hv l1
      simp at e
      obtain ⟨rfl, rfl⟩ := e
      obtain ⟨_, ⟨rfl, b, d, rfl⟩ | ⟨_, lb, lo, d, rfl, _, hlb, hxx⟩⟩ := hx
      · exact rplay_none zs zb off cap d b w (by omega) l2 h2 h3 hv hc
      · exact rplay_some zs xs zb off cap lb lo d w (by omega) l2 h2 h3 hv hc (by omega) hlb hxx
  · rw [playR_no xs hc]
    exact rplay_check zs a cap l _ w hc hck
end Go.Proofs.Ytmjjbnjedafdaaa
