/-
  Every run of ArenaMoves answers true, whatever it is called with, and leaves what was there as it was: its walk, out of the contracts of the program and of the reference.
-/
import Derived.Test.YtmjjbnjedafdaaaRefsb
namespace Go.Proofs.Ytmjjbnjedafdaaa
open Go.ChangeShapes Go.WideShapes Go.ChangeAt Go.RowKit Go.Joins Go.Deep

theorem playR_out_le (zs : List Int) (xs : List AOp) : (playR zs xs).out.length ≤ zs.length := by
  unfold playR
  split
  · exact Nat.zero_le _
  · split
    · exact Nat.zero_le _
    · by_cases he : (plays zs [] 0 0 0 xs).e = 0
      · rw [plays_length xs zs [] 0 0 0 he]; exact Nat.le_refl _
      · rw [((plays_facts xs zs [] 0 0 0).2 he).1]; exact Nat.zero_le _
theorem difR_le (zs ys : List Int) : (difR zs ys).1.length ≤ zs.length := by
  unfold difR
  split
  · exact Nat.zero_le _
  · split
    · exact Nat.zero_le _
    · split
      · exact Nat.zero_le _
      · exact difTo_length zs ys _
/-- The law's own three numbers, and what was there before the call. -/
def Tri (w0 : World) (a b n : Int) (w : World) : Prop := (w.cell? ⟨w0.heap.size, 0, none⟩ = some (.int .i64 a) ∧ w.cell? ⟨w0.heap.size, 1, none⟩ = some (.int .i64 b) ∧ w.cell? ⟨w0.heap.size, 2, none⟩ = some (.int .i64 n)) ∧ w0.heap.size < w.heap.size ∧ Below w0.heap.size w0 w
theorem tri_start (w0 : World) (a b n : Int) : Tri w0 a b n (w0.alloc (.cells #[.int .i64 a, .int .i64 b, .int .i64 n] 45)) := ⟨⟨by simp, by simp, by simp⟩, by simp, new_below _ _⟩
theorem tri_call {w0 W w1 : World} {a b n : Int} (hb : Below W.heap.size W w1) (h : Tri w0 a b n W) : Tri w0 a b n w1 := by
  obtain ⟨⟨h0, h1, h2⟩, hz, hl⟩ := h
  exact ⟨⟨(hb.cell (p := ⟨w0.heap.size, 0, none⟩) hz).trans h0, (hb.cell (p := ⟨w0.heap.size, 1, none⟩) hz).trans h1, (hb.cell (p := ⟨w0.heap.size, 2, none⟩) hz).trans h2⟩, Nat.lt_of_lt_of_le hz hb.size, below_call hb hl (Nat.le_refl _)⟩

set_option maxHeartbeats 1000000 in
theorem moves_far (a b : Option Addr) (n c m d : Nat) (x y z : Int) (w : World) (h : 1610 < n ∨ 1610 < m) : Calls Try.prog 7 #[.slice a n c, .slice b m d, .agg #[.int .i64 x, .int .i64 y, .int .i64 z]] w (Ret (.bool true) w) := by
  have h' : 1610 < n ∨ (¬ 1610 < n ∧ 1610 < m) := by omega
  clear h
  rcases h' with h1 | ⟨h1, h2⟩
  all_goals
    go_enter Try.func7, Try.ntmps7
    go_wp2_with (first | (go_at_call 10; refine (awake_any _).mono ?_; rintro e w1 ⟨rfl, hb1⟩))
    go_ret
    exact ⟨rfl, below_call hb1 (new_below _ _) (Nat.le_refl _)⟩

set_option maxRecDepth 100000 in
set_option maxHeartbeats 4000000 in
theorem moves_near (zs ys : List Int) (a b : Option Addr) (c d : Nat) (x y z : Int) (w : World) (hv : Words w (.slice a zs.length c) zs) (hu : Words w (.slice b ys.length d) ys) (h1 : ¬ 1610 < zs.length) (h2 : ¬ 1610 < ys.length) : Calls Try.prog 7 #[.slice a zs.length c, .slice b ys.length d, .agg #[.int .i64 x, .int .i64 y, .int .i64 z]] w (Ret (.bool true) w) := by
  have L1 := Lib.hid (playR_out_le ys [⟨3, x, y, z, 0⟩])
  have L2 := Lib.hid (playR_out_le ys [⟨4, x, 0, z, 0⟩])
  have L3 := Lib.hid (difR_le zs ys)
  have HV := Lib.hid hv
  have HU := Lib.hid hu
  clear hv hu
  go_enter Try.func7, Try.ntmps7
  have T0 := Lib.hid (tri_start w x y z)
  go_wp2_with fail
  refine (copy_pub ys _ _ _ _ _ (words_below (T0.out).2.2 HU.out)).mono ?_
  rintro e w1 ⟨va, rfl, oa, hb⟩
  have T1 := Lib.hid (tri_call hb T0.out)
  have A1 := Lib.hid (own_words oa)
  clear oa hb T0
  obtain ⟨⟨t10, t11, t12⟩, t1z, t1b⟩ := T1.out
  go_wp2_with fail
  refine (rcopy_any ys _ _ _ _ _ (words_below (T1.out).2.2 HU.out)).mono ?_
  rintro e w2 ⟨vb, rfl, oa, hb⟩
  have T2 := Lib.hid (tri_call hb T1.out)
  have A2 := Lib.hid (words_below hb A1.out)
  have B2 := Lib.hid (own_words oa)
  clear oa hb T1 A1 t10 t11 t12 t1z t1b
  obtain ⟨⟨t20, t21, t22⟩, t2z, t2b⟩ := T2.out
  go_wp2_with fail
  refine (same_yes _ _ _ _ A2.out B2.out (by have := L1.out; omega)).mono ?_
  rintro e w3 ⟨rfl, hb⟩
  have T3 := Lib.hid (tri_call hb T2.out)
  have A3 := Lib.hid (words_below hb A2.out)
  have B3 := Lib.hid (words_below hb B2.out)
  clear hb T2 A2 B2 t20 t21 t22 t2z t2b
  obtain ⟨⟨t30, t31, t32⟩, t3z, t3b⟩ := T3.out
  go_wp2_with fail
  refine (clear_pub ys _ _ _ _ (words_below (T3.out).2.2 HU.out)).mono ?_
  rintro e w4 ⟨vc, rfl, oa, hb⟩
  have T4 := Lib.hid (tri_call hb T3.out)
  have C4 := Lib.hid (own_words oa)
  clear oa hb T3 t30 t31 t32 t3z t3b
  obtain ⟨⟨t40, t41, t42⟩, t4z, t4b⟩ := T4.out
  go_wp2_with fail
  refine (rclear_any ys _ _ _ _ (words_below (T4.out).2.2 HU.out)).mono ?_
  rintro e w5 ⟨vd, rfl, oa, hb⟩
  have T5 := Lib.hid (tri_call hb T4.out)
  have C5 := Lib.hid (words_below hb C4.out)
  have D5 := Lib.hid (own_words oa)
  clear oa hb T4 C4 t40 t41 t42 t4z t4b
  obtain ⟨⟨t50, t51, t52⟩, t5z, t5b⟩ := T5.out
  go_wp2_with fail
  refine (same_yes _ _ _ _ C5.out D5.out (by have := L2.out; omega)).mono ?_
  rintro e w6 ⟨rfl, hb⟩
  have T6 := Lib.hid (tri_call hb T5.out)
  have C6 := Lib.hid (words_below hb C5.out)
  have D6 := Lib.hid (words_below hb D5.out)
  clear hb T5 C5 D5 t50 t51 t52 t5z t5b
  obtain ⟨⟨t60, t61, t62⟩, t6z, t6b⟩ := T6.out
  go_wp2_with fail
  refine (zero_pub ys _ _ _ _ (words_below (T6.out).2.2 HU.out)).mono ?_
  rintro e w' ⟨rfl, rfl⟩
  go_wp2_with fail
  refine (rzero_any ys _ _ _ _ (words_below (T6.out).2.2 HU.out)).mono ?_
  rintro e w' ⟨rfl, rfl⟩
  go_wp2_with fail
  refine (differ_any zs ys _ _ _ (words_below (T6.out).2.2 HV.out) (words_below (T6.out).2.2 HU.out)).mono ?_
  rintro e w7 ⟨vl, rfl, oa, hb⟩
  have T7 := Lib.hid (tri_call hb T6.out)
  have E7 := Lib.hid (ownI_nums oa)
  clear oa hb T6 t60 t61 t62 t6z t6b
  obtain ⟨⟨t70, t71, t72⟩, t7z, t7b⟩ := T7.out
  go_wp2_with fail
  refine (rdiffer_any zs ys _ _ _ (words_below (T7.out).2.2 HV.out) (words_below (T7.out).2.2 HU.out)).mono ?_
  rintro e w8 ⟨vm, rfl, oa, hb⟩
  have T8 := Lib.hid (tri_call hb T7.out)
  have E8 := Lib.hid (nums_below hb E7.out)
  have F8 := Lib.hid (ownI_nums oa)
  clear oa hb T7 E7 t70 t71 t72 t7z t7b
  obtain ⟨⟨t80, t81, t82⟩, t8z, t8b⟩ := T8.out
  go_wp2_with fail
  refine (ints_yes _ _ _ _ E8.out F8.out (by have := L3.out; omega)).mono ?_
  rintro e w9 ⟨rfl, hb⟩
  have T9 := Lib.hid (tri_call hb T8.out)
  have E9 := Lib.hid (nums_below hb E8.out)
  have F9 := Lib.hid (nums_below hb F8.out)
  clear hb T8 E8 F8 t80 t81 t82 t8z t8b
  obtain ⟨⟨t90, t91, t92⟩, t9z, t9b⟩ := T9.out
  go_wp2_with fail
  refine (awake_any _).mono ?_
  rintro e wz ⟨rfl, hb⟩
  have BZ := Lib.hid (below_call hb t9b (Nat.le_refl _))
  clear hb
  go_wp2
  go_ret
  exact ⟨rfl, BZ.out⟩

theorem moves_walk (zs ys : List Int) (v u : Value) (x y z : Int) (w : World) (hv : Words w v zs) (hu : Words w u ys) : Calls Try.prog 7 #[v, u, .agg #[.int .i64 x, .int .i64 y, .int .i64 z]] w (Ret (.bool true) w) := by
  obtain ⟨a, c, rfl⟩ := words_slice hv
  obtain ⟨b, d, rfl⟩ := words_slice hu
  by_cases h : 1610 < zs.length ∨ 1610 < ys.length
  · exact moves_far _ _ _ _ _ _ x y z w h
  · exact moves_near zs ys a b c d x y z w hv hu (by omega) (by omega)

theorem cellsTri : Try.prog.cellsOf 45 = 3 := by kernel_rfl
theorem open_tri {H : Type} {enc : TypeId × Value → H} {w : World} {base : Nat} {spare : Nat → Bool} {held : Bool} {r : Reach} {b0 : Nat} {v : Value} {d : DataW H} {p : List MemPlace} (hv : Value.okWide Try.prog w r b0 45 v) (h : DataW.Trod enc Try.prog w base spare held 45 v d p) : ∃ x y z : Int, v = .agg #[.int .i64 x, .int .i64 y, .int .i64 z] := by
  have hcs : ∃ cs : Array Value, v = .agg cs ∧ cs.size = 3 := by
    simp only [Value.okWide, Try.underlying45] at hv
    obtain ⟨cs, h1, h2, _⟩ := hv
    exact ⟨cs, h1, h2.trans cellsTri⟩
  obtain ⟨cs, rfl, hsz⟩ := hcs
  obtain ⟨l⟩ := cs
  match l, hsz with
  | [c0, c1, c2], _ =>
    obtain ⟨fuel, hf⟩ := h
    obtain ⟨xs, m, _, _, _, hlen, hg⟩ := DataW.trod_array Try.underlying45 hf
    match xs, hlen with
    | [y0, y1, y2], _ =>
      obtain ⟨x, rfl, _⟩ := one_i (v := c0) (y := y0) (by simpa [Value.cells, cellsInt] using hg 0 (by decide))
      obtain ⟨y, rfl, _⟩ := one_i (v := c1) (y := y1) (by simpa [Value.cells, cellsInt] using hg 1 (by decide))
      obtain ⟨z, rfl, _⟩ := one_i (v := c2) (y := y2) (by simpa [Value.cells, cellsInt] using hg 2 (by decide))
      exact ⟨x, y, z, rfl⟩

set_option maxRecDepth 100000 in
theorem arenaMoves_lifted (os : Os) (started : os.Started) (H : Type) (enc : TypeId × Value → H) :
    ReturnsInHanded {} Try.checked os 7 .any (Rows.arenaMovesSpec.pre6 enc Try.prog Try.f7 Rows.arenaMovesRow.domain false) (Rows.arenaMovesSpec.post enc Try.prog Try.f7 false true false false) := by
  refine returnsInHanded_of_change (C := Try.checked) own started (by kernel_rfl) Try.func7
    (ChangeSpec.witness6 (enc := enc) (C := Try.checked) false ⟨#[], #[.slice none 0 0, .slice none 0 0, .agg #[.int .i64 0, .int .i64 0, .int .i64 0]], []⟩ 8 (by kernel_rfl) (by kernel_rfl) (by kernel_rfl) (by kernel_rfl)) ?_
  intro W base args ds gs before hval0 hW hcnd _
  have hval : ∀ (j : Nat) t v, Try.f7.params[j]? = some t → args[j]? = some v → Value.okWide Try.prog W .any base t v := hval0
  have hW' := hW
  obtain ⟨p, q, hA0, hV, rfl, hfz, hnd⟩ := hW
  have hA : DataW.TrodAll enc Try.prog W 0 (fun _ => true) true Try.f7.params.toList args.toList ds p := hA0
  obtain ⟨rfl, rfl⟩ := trodVars_none hV
  obtain ⟨v0, v1, v2, d0, d1, d2, p0, p1, p2, rfl, rfl, t0, t1, t2, k0, k1, k2⟩ := law3 Try.params7 hA hval
  obtain ⟨zs, hz⟩ := open_words k0 t0
  obtain ⟨ys, hy⟩ := open_words k1 t1
  obtain ⟨x, y, z, rfl⟩ := open_tri k2 t2
  refine (moves_walk zs ys _ _ x y z W hz hy).mono fun e W' ⟨he, hb⟩ => ?_
  subst he
  exact ⟨_, rfl, law_post laidOut (by kernel_rfl) rfl (by kernel_rfl) Try.underlying4 hW' rfl rfl rfl hb⟩

theorem arenaMoves_over : Rows.arenaMovesRow.holds Try.pinned (OpenSpec.ofChange Rows.arenaMovesSpec) :=
  OpenClaim.holds_of_wide 7 Try.f7 rfl rfl rfl rfl rfl rfl rfl ⟨rfl, rfl, rfl, rfl, rfl⟩ rfl rfl rfl rfl rfl (by kernel_rfl) Try.func7 (by kernel_rfl)
    (of_decide_eq_true (by kernel_rfl)) (by unfold Func.isWrapper; first | (rw [if_pos (by decide +kernel)]; kernel_rfl) | (rw [if_neg (by decide +kernel)]; exact ⟨rfl, rfl⟩))
    (fun os started H enc _ => arenaMoves_lifted os started H enc)

theorem arenaMoves_holds : Rows.ArenaMovesSaid := arenaMoves_over
#print axioms arenaMoves_holds
end Go.Proofs.Ytmjjbnjedafdaaa
