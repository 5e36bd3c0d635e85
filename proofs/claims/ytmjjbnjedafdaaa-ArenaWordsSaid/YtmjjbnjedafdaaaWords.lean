/-
  Every run of ArenaWords answers true, whatever it is called with, and leaves what was there as it was: its walk, out of the contracts of the program and of the reference.
-/
import Derived.Test.YtmjjbnjedafdaaaMoves
import Derived.Test.YtmjjbnjedafdaaaCfg
import Derived.Laws.MakeOwn
namespace Go.Proofs.Ytmjjbnjedafdaaa
open Go.ChangeShapes Go.WideShapes Go.ChangeAt Go.RowKit Go.Joins Go.Deep

/-- The words of a config that is good: none of another. -/
def newL (C N S K Q : Int) : List Int := if cfgB C N S K Q then List.replicate (1 + S + N * C).toNat 0 else []
theorem make_run (w : World) (n : Nat) (hn : n ≤ 100000) : (Instr.makeSlice 22 (.int .i64 n) (.int .i64 n)).run Try.prog w = .ok (.slice (some ⟨w.heap.size, 0, none⟩) n n) (w.alloc (.cells (us (List.replicate n 0)).toArray 32)) := by
  obtain ⟨i0, hi0, hz0, hz1, hz2⟩ := info_parts info32
  have q := run_makeSlice (P := Try.prog) w 22 32 i0 (.int .u64 0) Try.underlying22 hi0 hz0 .i64 .i64 (n : Int) (n : Int) (by omega) (by omega) (by rw [hz1]; omega) (by rw [hz2]; omega) (by omega)
  rw [q, hz1]
  have e : madeCells (Value.cells (.int .u64 0)) ((n : Int).toNat * 1) = (us (List.replicate n 0)).toArray := by
    apply Array.ext
    · simp [size_madeCells, us_length]
    · intro i h1 h2
      simp [madeCells, us, Value.cells, Nat.mod_one]
  rw [e, Int.toNat_natCast]
theorem own_made (w : World) (l : List Int) (hm : l.length ≤ maxLen) : Own w (.slice (some ⟨w.heap.size, 0, none⟩) l.length l.length) l (w.alloc (.cells (us l).toArray 32)) := by
  refine ⟨by rw [us_length, Nat.mul_one], .inr ⟨w.heap.size, l.length, (us l).toArray, rfl, Nat.le_refl _, (MapKept.heap_alloc w _).1, Nat.le_refl _, hm, by simp [us_length], ?_⟩⟩
  rw [Nat.mul_one, ← us_length l, List.take_length]

set_option maxHeartbeats 1000000 in
theorem new_any (C N S K Q : Int) (w : World) : Calls Try.prog 27 #[.agg #[.int .i64 C, .int .i64 N, .int .i64 S, .int .i64 K, .int .i64 Q]] w fun e w' => ∃ v, e = .returned (.tuple #[v, .int .i64 (cfgE C N S K Q)]) ∧ Own w v (newL C N S K Q) w' ∧ Below w.heap.size w w' := by
  unfold cfgE newL
  cases h : cfgB C N S K Q
  · have HB := Lib.hid h
    clear h
    go_enter Try.func27, Try.ntmps27
    go_wp2_with (go_at_call 41; refine (words_no _ _ _ _ _ _ (cfgB_false.1 HB.out)).mono ?_; rintro e w1 ⟨rfl, hb1⟩)
    go_ret2
    exact ⟨_, rfl, own_nil _ _, below_call hb1 (new_below _ _) (Nat.le_refl _)⟩
  · obtain ⟨⟨c1, c2⟩, ⟨n1, n2⟩, ⟨s1, s2⟩, ⟨_, _⟩, _, _⟩ := cfgB_true.1 h
    obtain ⟨b1, b2⟩ := prod_bounds c1 c2 n1 n2
    have HB := Lib.hid h
    obtain ⟨n, hn⟩ := Int.eq_ofNat_of_zero_le (show 0 ≤ 1 + S + N * C by omega)
    have hn2 : n ≤ 1601 := by omega
    rw [if_pos rfl, if_pos rfl, hn, Int.toNat_natCast]
    have HN := Lib.hid hn
    clear h hn
    have hmk := fun w => make_run w n (by omega)
    go_enter Try.func27, Try.ntmps27
    go_wp2_with fail
    refine (words_ok _ _ _ _ _ _ (cfgB_true.1 HB.out)).mono ?_
    rw [HN.out]
    rintro e w1 ⟨rfl, hb1⟩
    have B1 := Lib.hid (below_call hb1 (new_below _ _) (Nat.le_refl _))
    clear hb1
    go_wp2
    go_ret2
    have q := own_made w1 (List.replicate n 0) (by simp; unfold maxLen; omega)
    rw [List.length_replicate] at q
    exact ⟨_, rfl, own_base B1.out.size q, below_new B1.out (Nat.le_refl _) _⟩

set_option maxHeartbeats 1000000 in
theorem rnew_any (C N S K Q : Int) (w : World) : Calls Try.prog 28 #[.agg #[.int .i64 C, .int .i64 N, .int .i64 S, .int .i64 K, .int .i64 Q]] w fun e w' => ∃ v, e = .returned (.tuple #[v, .int .i64 (cfgE C N S K Q)]) ∧ Own w v (newL C N S K Q) w' ∧ Below w.heap.size w w' := by
  unfold cfgE newL
  cases h : cfgB C N S K Q
  · have HB := Lib.hid h
    clear h
    go_enter Try.func28, Try.ntmps28
    go_wp2_with (go_at_call 42; refine (rwords_no _ _ _ _ _ _ HB.out).mono ?_; rintro e w1 ⟨rfl, hb1⟩)
    go_ret2
    exact ⟨_, rfl, own_nil _ _, below_call hb1 (new_below _ _) (Nat.le_refl _)⟩
  · obtain ⟨⟨c1, c2⟩, ⟨n1, n2⟩, ⟨s1, s2⟩, ⟨_, _⟩, _, _⟩ := cfgB_true.1 h
    obtain ⟨b1, b2⟩ := prod_bounds c1 c2 n1 n2
    have HB := Lib.hid h
    obtain ⟨n, hn⟩ := Int.eq_ofNat_of_zero_le (show 0 ≤ 1 + S + N * C by omega)
    have hn2 : n ≤ 1601 := by omega
    rw [if_pos rfl, if_pos rfl, hn, Int.toNat_natCast]
    have HN := Lib.hid hn
    clear h hn
    have hmk := fun w => make_run w n (by omega)
    go_enter Try.func28, Try.ntmps28
    go_wp2_with fail
    refine (rwords_ok _ _ _ _ _ _ HB.out).mono ?_
    rw [HN.out]
    rintro e w1 ⟨rfl, hb1⟩
    have B1 := Lib.hid (below_call hb1 (new_below _ _) (Nat.le_refl _))
    clear hb1
    go_wp2
    go_ret2
    have q := own_made w1 (List.replicate n 0) (by simp; unfold maxLen; omega)
    rw [List.length_replicate] at q
    exact ⟨_, rfl, own_base B1.out.size q, below_new B1.out (Nat.le_refl _) _⟩

/-- The law's own config, address and value, and what was there before the call. -/
def Cw (w0 : World) (C N S K Q a u : Int) (w : World) : Prop := (w.cell? ⟨w0.heap.size, 0, none⟩ = some (.int .i64 C) ∧ w.cell? ⟨w0.heap.size, 1, none⟩ = some (.int .i64 N) ∧ w.cell? ⟨w0.heap.size, 2, none⟩ = some (.int .i64 S) ∧ w.cell? ⟨w0.heap.size, 3, none⟩ = some (.int .i64 K) ∧ w.cell? ⟨w0.heap.size, 4, none⟩ = some (.int .i64 Q) ∧ w.cell? ⟨w0.heap.size + 1, 0, none⟩ = some (.int .i64 a) ∧ w.cell? ⟨w0.heap.size + 1, 1, none⟩ = some (.int .u64 u)) ∧ w0.heap.size + 1 < w.heap.size ∧ Below w0.heap.size w0 w
theorem cw_start (w0 : World) (C N S K Q a u : Int) : Cw w0 C N S K Q a u ((w0.alloc (.cells #[.int .i64 C, .int .i64 N, .int .i64 S, .int .i64 K, .int .i64 Q] 54)).alloc (.cells #[.int .i64 a, .int .u64 u] 56)) := by
  refine ⟨⟨?_, ?_, ?_, ?_, ?_, ?_, ?_⟩, ?_, below_new (new_below _ _) (Nat.le_refl _) _⟩ <;> go_simp
theorem cw_call {w0 W w1 : World} {C N S K Q a u : Int} (hb : Below W.heap.size W w1) (h : Cw w0 C N S K Q a u W) : Cw w0 C N S K Q a u w1 := by
  obtain ⟨⟨h0, h1, h2, h3, h4, h5, h6⟩, hz, hl⟩ := h
  have hz' : w0.heap.size < W.heap.size := by omega
  exact ⟨⟨(hb.cell (p := ⟨w0.heap.size, 0, none⟩) hz').trans h0, (hb.cell (p := ⟨w0.heap.size, 1, none⟩) hz').trans h1, (hb.cell (p := ⟨w0.heap.size, 2, none⟩) hz').trans h2, (hb.cell (p := ⟨w0.heap.size, 3, none⟩) hz').trans h3, (hb.cell (p := ⟨w0.heap.size, 4, none⟩) hz').trans h4, (hb.cell (p := ⟨w0.heap.size + 1, 0, none⟩) hz).trans h5, (hb.cell (p := ⟨w0.heap.size + 1, 1, none⟩) hz).trans h6⟩, Nat.lt_of_lt_of_le hz hb.size, below_call hb hl (Nat.le_refl _)⟩
theorem newL_le (C N S K Q : Int) : (newL C N S K Q).length ≤ 1000000 := by
  unfold newL
  split
  · rename_i h
    obtain ⟨⟨c1, c2⟩, ⟨n1, n2⟩, ⟨s1, s2⟩, ⟨_, _⟩, _, _⟩ := cfgB_true.1 h
    obtain ⟨b1, b2⟩ := prod_bounds c1 c2 n1 n2
    rw [List.length_replicate]; omega
  · simp

set_option maxHeartbeats 1000000 in
theorem words_far (C N S K Q a u : Int) (s : Option Addr) (n c : Nat) (w : World) (h : 1610 < n) : Calls Try.prog 9 #[.agg #[.int .i64 C, .int .i64 N, .int .i64 S, .int .i64 K, .int .i64 Q], .slice s n c, .agg #[.int .i64 a, .int .u64 u]] w (Ret (.bool true) w) := by
  go_enter Try.func9, Try.ntmps9
  go_wp2_with (first | (go_at_call 10; refine (awake_any _).mono ?_; rintro e w1 ⟨rfl, hb1⟩))
  go_ret
  exact ⟨rfl, below_call hb1 (below_new (new_below _ _) (Nat.le_refl _) _) (Nat.le_refl _)⟩

set_option maxRecDepth 100000 in
set_option maxHeartbeats 4000000 in
theorem words_near (C N S K Q a u : Int) (zs : List Int) (s : Option Addr) (c : Nat) (w : World) (hv : Words w (.slice s zs.length c) zs) (h : ¬ 1610 < zs.length) : Calls Try.prog 9 #[.agg #[.int .i64 C, .int .i64 N, .int .i64 S, .int .i64 K, .int .i64 Q], .slice s zs.length c, .agg #[.int .i64 a, .int .u64 u]] w (Ret (.bool true) w) := by
  have L1 := Lib.hid (playR_out_le zs [⟨2, a, 0, 0, u⟩])
  have HV := Lib.hid hv
  clear hv
  go_enter Try.func9, Try.ntmps9
  have T0 := Lib.hid (cw_start w C N S K Q a u)
  go_wp2_with fail
  refine (new_any _ _ _ _ _ _).mono ?_
  rintro e w1 ⟨va, rfl, oa, hb⟩
  have T1 := Lib.hid (cw_call hb T0.out)
  have A1 := Lib.hid (own_words oa)
  clear oa hb T0
  obtain ⟨⟨t10, t11, t12, t13, t14, t15, t16⟩, t1z, t1b⟩ := T1.out
  go_wp2_with fail
  refine (rnew_any _ _ _ _ _ _).mono ?_
  rintro e w2 ⟨vb, rfl, oa, hb⟩
  have T2 := Lib.hid (cw_call hb T1.out)
  have A2 := Lib.hid (words_below hb A1.out)
  have B2 := Lib.hid (own_words oa)
  clear oa hb T1 A1 t10 t11 t12 t13 t14 t15 t16 t1z t1b
  obtain ⟨⟨t20, t21, t22, t23, t24, t25, t26⟩, t2z, t2b⟩ := T2.out
  go_wp2_with fail
  refine (same_yes _ _ _ _ A2.out B2.out (newL_le _ _ _ _ _)).mono ?_
  rintro e w3 ⟨rfl, hb⟩
  have T3 := Lib.hid (cw_call hb T2.out)
  have A3 := Lib.hid (words_below hb A2.out)
  have B3 := Lib.hid (words_below hb B2.out)
  clear hb T2 A2 B2 t20 t21 t22 t23 t24 t25 t26 t2z t2b
  obtain ⟨⟨t30, t31, t32, t33, t34, t35, t36⟩, t3z, t3b⟩ := T3.out
  go_wp2_with fail
  refine (check_any zs _ _ (words_below (T3.out).2.2 HV.out)).mono ?_
  rintro e w' ⟨rfl, rfl⟩
  go_wp2_with fail
  refine (rcheck_any zs _ _ (words_below (T3.out).2.2 HV.out)).mono ?_
  rintro e w' ⟨rfl, rfl⟩
  go_wp2_with fail
  refine (get_pub zs _ _ _ (words_below (T3.out).2.2 HV.out)).mono ?_
  rintro e w' ⟨rfl, rfl⟩
  go_wp2_with fail
  refine (rget_any zs _ _ _ (words_below (T3.out).2.2 HV.out)).mono ?_
  rintro e w' ⟨rfl, rfl⟩
  go_wp2_with fail
  refine (set_pub zs _ _ _ _ (words_below (T3.out).2.2 HV.out)).mono ?_
  rintro e w4 ⟨vc, rfl, oa, hb⟩
  have T4 := Lib.hid (cw_call hb T3.out)
  have D4 := Lib.hid (own_words oa)
  clear oa hb T3 t30 t31 t32 t33 t34 t35 t36 t3z t3b
  obtain ⟨⟨t40, t41, t42, t43, t44, t45, t46⟩, t4z, t4b⟩ := T4.out
  go_wp2_with fail
  refine (rset_any zs _ _ _ _ (words_below (T4.out).2.2 HV.out)).mono ?_
  rintro e w5 ⟨vd, rfl, oa, hb⟩
  have T5 := Lib.hid (cw_call hb T4.out)
  have D5 := Lib.hid (words_below hb D4.out)
  have E5 := Lib.hid (own_words oa)
  clear oa hb T4 D4 t40 t41 t42 t43 t44 t45 t46 t4z t4b
  obtain ⟨⟨t50, t51, t52, t53, t54, t55, t56⟩, t5z, t5b⟩ := T5.out
  go_wp2_with fail
  refine (same_yes _ _ _ _ D5.out E5.out (by have := L1.out; omega)).mono ?_
  rintro e w6 ⟨rfl, hb⟩
  have T6 := Lib.hid (cw_call hb T5.out)
  have D6 := Lib.hid (words_below hb D5.out)
  have E6 := Lib.hid (words_below hb E5.out)
  clear hb T5 D5 E5 t50 t51 t52 t53 t54 t55 t56 t5z t5b
  obtain ⟨⟨t60, t61, t62, t63, t64, t65, t66⟩, t6z, t6b⟩ := T6.out
  go_wp2_with fail
  refine (awake_any _).mono ?_
  rintro e wz ⟨rfl, hb⟩
  have BZ := Lib.hid (below_call hb t6b (Nat.le_refl _))
  clear hb
  go_wp2
  go_ret
  exact ⟨rfl, BZ.out⟩

theorem words_walk (C N S K Q a u : Int) (zs : List Int) (v : Value) (w : World) (hv : Words w v zs) : Calls Try.prog 9 #[.agg #[.int .i64 C, .int .i64 N, .int .i64 S, .int .i64 K, .int .i64 Q], v, .agg #[.int .i64 a, .int .u64 u]] w (Ret (.bool true) w) := by
  obtain ⟨s, c, rfl⟩ := words_slice hv
  by_cases h : 1610 < zs.length
  · exact words_far C N S K Q a u s _ c w h
  · exact words_near C N S K Q a u zs s c w hv h
theorem cellsCfg : Try.prog.cellsOf 54 = 5 := by kernel_rfl
theorem cellsWd : Try.prog.cellsOf 56 = 2 := by kernel_rfl
theorem open_cfg {H : Type} {enc : TypeId × Value → H} {w : World} {base : Nat} {spare : Nat → Bool} {held : Bool} {r : Reach} {b0 : Nat} {v : Value} {d : DataW H} {p : List MemPlace} (hv : Value.okWide Try.prog w r b0 54 v) (h : DataW.Trod enc Try.prog w base spare held 54 v d p) : ∃ C N S K Q : Int, v = .agg #[.int .i64 C, .int .i64 N, .int .i64 S, .int .i64 K, .int .i64 Q] := by
  obtain ⟨cs, rfl, hsz⟩ := okWide_struct Try.underlying54 hv
  obtain ⟨l⟩ := cs
  match l, hsz.trans cellsCfg with
  | [c0, c1, c2, c3, c4], _ =>
    obtain ⟨fuel, hf⟩ := h
    obtain ⟨xs, n, _, _, _, hlen, hg⟩ := DataW.trod_struct Try.underlying54 hf
    match xs, hlen with
    | [y0, y1, y2, y3, y4], _ =>
      obtain ⟨C, rfl, _⟩ := one_i (v := c0) (y := y0) (by simpa [Value.cells, cellsInt] using hg 0 _ rfl)
      obtain ⟨N, rfl, _⟩ := one_i (v := c1) (y := y1) (by simpa [Value.cells, cellsInt] using hg 1 _ rfl)
      obtain ⟨S, rfl, _⟩ := one_i (v := c2) (y := y2) (by simpa [Value.cells, cellsInt] using hg 2 _ rfl)
      obtain ⟨K, rfl, _⟩ := one_i (v := c3) (y := y3) (by simpa [Value.cells, cellsInt] using hg 3 _ rfl)
      obtain ⟨Q, rfl, _⟩ := one_i (v := c4) (y := y4) (by simpa [Value.cells, cellsInt] using hg 4 _ rfl)
      exact ⟨C, N, S, K, Q, rfl⟩
theorem open_wd {H : Type} {enc : TypeId × Value → H} {w : World} {base : Nat} {spare : Nat → Bool} {held : Bool} {r : Reach} {b0 : Nat} {v : Value} {d : DataW H} {p : List MemPlace} (hv : Value.okWide Try.prog w r b0 56 v) (h : DataW.Trod enc Try.prog w base spare held 56 v d p) : ∃ a u : Int, v = .agg #[.int .i64 a, .int .u64 u] := by
  obtain ⟨cs, rfl, hsz⟩ := okWide_struct Try.underlying56 hv
  obtain ⟨l⟩ := cs
  match l, hsz.trans cellsWd with
  | [c0, c1], _ =>
    obtain ⟨fuel, hf⟩ := h
    obtain ⟨xs, n, _, _, _, hlen, hg⟩ := DataW.trod_struct Try.underlying56 hf
    match xs, hlen with
    | [y0, y1], _ =>
      obtain ⟨a, rfl, _⟩ := one_i (v := c0) (y := y0) (by simpa [Value.cells, cellsInt] using hg 0 _ rfl)
      obtain ⟨u, rfl⟩ := one_u (v := c1) (y := y1) (by simpa [Value.cells, cellsU, cellsInt] using hg 1 _ rfl)
      exact ⟨a, u, rfl⟩

set_option maxRecDepth 100000 in
theorem arenaWords_lifted (os : Os) (started : os.Started) (H : Type) (enc : TypeId × Value → H) :
    ReturnsInHanded {} Try.checked os 9 .any (Rows.arenaWordsSpec.pre6 enc Try.prog Try.f9 Rows.arenaWordsRow.domain false) (Rows.arenaWordsSpec.post enc Try.prog Try.f9 false true false false) := by
  refine returnsInHanded_of_change (C := Try.checked) own started (by kernel_rfl) Try.func9
    (ChangeSpec.witness6 (enc := enc) (C := Try.checked) false ⟨#[], #[.agg #[.int .i64 0, .int .i64 0, .int .i64 0, .int .i64 0, .int .i64 0], .slice none 0 0, .agg #[.int .i64 0, .int .u64 0]], []⟩ 8 (by kernel_rfl) (by kernel_rfl) (by kernel_rfl) (by kernel_rfl)) ?_
  intro W base args ds gs before hval0 hW hcnd _
  have hval : ∀ (j : Nat) t v, Try.f9.params[j]? = some t → args[j]? = some v → Value.okWide Try.prog W .any base t v := hval0
  have hW' := hW
  obtain ⟨p, q, hA0, hV, rfl, hfz, hnd⟩ := hW
  have hA : DataW.TrodAll enc Try.prog W 0 (fun _ => true) true Try.f9.params.toList args.toList ds p := hA0
  obtain ⟨rfl, rfl⟩ := trodVars_none hV
  obtain ⟨v0, v1, v2, d0, d1, d2, p0, p1, p2, rfl, rfl, t0, t1, t2, k0, k1, k2⟩ := law3 Try.params9 hA hval
  obtain ⟨C, N, S, K, Q, rfl⟩ := open_cfg k0 t0
  obtain ⟨zs, hz⟩ := open_words k1 t1
  obtain ⟨a, u, rfl⟩ := open_wd k2 t2
  refine (words_walk C N S K Q a u zs _ W hz).mono fun e W' ⟨he, hb⟩ => ?_
  subst he
  exact ⟨_, rfl, law_post laidOut (by kernel_rfl) rfl (by kernel_rfl) Try.underlying4 hW' rfl rfl rfl hb⟩

theorem arenaWords_over : Rows.arenaWordsRow.holds Try.pinned (OpenSpec.ofChange Rows.arenaWordsSpec) :=
  OpenClaim.holds_of_wide 9 Try.f9 rfl rfl rfl rfl rfl rfl rfl ⟨rfl, rfl, rfl, rfl, rfl⟩ rfl rfl rfl rfl rfl (by kernel_rfl) Try.func9 (by kernel_rfl)
    (of_decide_eq_true (by kernel_rfl)) (by unfold Func.isWrapper; first | (rw [if_pos (by decide +kernel)]; kernel_rfl) | (rw [if_neg (by decide +kernel)]; exact ⟨rfl, rfl⟩))
    (fun os started H enc _ => arenaWords_lifted os started H enc)

theorem arenaWords_holds : Rows.ArenaWordsSaid := arenaWords_over
#print axioms arenaWords_holds
end Go.Proofs.Ytmjjbnjedafdaaa
