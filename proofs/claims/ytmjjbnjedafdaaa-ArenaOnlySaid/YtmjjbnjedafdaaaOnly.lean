/-
  Every run of ArenaOnly answers true, whatever it is called with, and leaves what was there as it was: its walk, out of the contracts of the program.
-/
import Derived.Test.YtmjjbnjedafdaaaOnlyp
import Derived.Deep.QuietTactic
import Derived.BigQuiet
import Derived.IntWalk
import Derived.Outline
namespace Go.Proofs.Ytmjjbnjedafdaaa
open Go.ChangeShapes Go.WideShapes Go.ChangeAt Go.RowKit Go.Joins Go.Deep

theorem set_val {zs : List Int} {a u : Int} {R : PR} {v : Value} (w : World) (hv : Words w v zs) (h : playR zs [⟨2, a, 0, 0, u⟩] = R) : Calls Try.prog 15 #[v, .int .i64 a, .int .u64 u] w (OnePost R w) := by rw [← h]; exact set_pub zs a u v w hv
theorem copy_val {zs : List Int} {a b n : Int} {R : PR} {v : Value} (w : World) (hv : Words w v zs) (h : playR zs [⟨3, a, b, n, 0⟩] = R) : Calls Try.prog 16 #[v, .int .i64 a, .int .i64 b, .int .i64 n] w (OnePost R w) := by rw [← h]; exact copy_pub zs a b n v w hv
theorem clear_val {zs : List Int} {a n : Int} {R : PR} {v : Value} (w : World) (hv : Words w v zs) (h : playR zs [⟨4, a, 0, n, 0⟩] = R) : Calls Try.prog 17 #[v, .int .i64 a, .int .i64 n] w (OnePost R w) := by rw [← h]; exact clear_pub zs a n v w hv
theorem differ_val {zs ys : List Int} {R : List Int × Int} {v u : Value} (w : World) (hv : Words w v zs) (hu : Words w u ys) (h : difR zs ys = R) : Calls Try.prog 18 #[v, u] w (DifPost R w) := by rw [← h]; exact differ_any zs ys v u w hv hu

set_option maxRecDepth 100000 in
set_option maxHeartbeats 1000000 in
theorem only_far (a : Option Addr) (n c : Nat) (k xa xb xn u : Int) (w : World) (h : 200 < n) : Calls Try.prog 6 #[.slice a n c, .agg #[.int .i64 k, .int .i64 xa, .int .i64 xb, .int .i64 xn, .int .u64 u]] w (Ret (.bool true) w) := by
  go_enter Try.func6, Try.ntmps6
  go_wp2_with (first | (go_at_call 10; refine (awake_any _).mono ?_; rintro e w1 ⟨rfl, hb1⟩))
  go_ret
  exact ⟨rfl, below_call hb1 (new_below _ _) (Nat.le_refl _)⟩

set_option maxRecDepth 100000 in
set_option maxHeartbeats 4000000 in
theorem only_oe (zs : List Int) (a : Option Addr) (c : Nat) (k xa xb xn u : Int) (R0 : PR) (e1 : Int) (he : e1 ≠ 0) (w : World) (hv : Words w (.slice a zs.length c) zs) (hf : Fine (.slice a zs.length c)) (hn : zs.length ≤ 200) (k3 : k ≠ 3) (k4 : k ≠ 4) (h0 : playR zs [⟨2, xa, 0, 0, u⟩] = R0) (hR : playR zs [⟨2, xa, xb, xn, u⟩] = ⟨[], [], 0, 0, 0, e1⟩) : Calls Try.prog 6 #[.slice a zs.length c, .agg #[.int .i64 k, .int .i64 xa, .int .i64 xb, .int .i64 xn, .int .u64 u]] w (Ret (.bool true) w) := by
  have HV := Lib.hid hv
  have H0 := Lib.hid h0
  have HR := Lib.hid hR
  have t1 : ¬ 200 < zs.length := by omega
  have t2 : (k == 3) = false := by simpa using k3
  have t3 : (k == 4) = false := by simpa using k4
  have t4 : (k != 3) = true := by simpa using k3
  have t5 : (k != 4) = true := by simpa using k4
  have HS0 : Hid (R0 = ⟨[], [], 0, 0, 0, e1⟩) := by show _ = _; rw [← h0, one_set2 zs xa xb xn u, hR]
  have t6 : (e1 != 0) = true := by simpa using he
  obtain ⟨was, w1, hrun, os, hb1⟩ := app_words (b := w.heap.size + 1) (W := w.alloc (.cells #[.int .i64 k, .int .i64 xa, .int .i64 xb, .int .i64 xn, .int .u64 u] 35)) (by simp) (words_below (new_below w _) hv) hf (by omega)
  have BX1 := Lib.hid (bx_below hb1 (bx_new w k xa xb xn u))
  have B1 := Lib.hid (below_call hb1 (new_below w (.cells #[.int .i64 k, .int .i64 xa, .int .i64 xb, .int .i64 xn, .int .u64 u] 35)) (Nat.le_refl _))
  have HRUN := Lib.hid hrun
  have HLT : Hid (w.heap.size < w1.heap.size) := bx_lt BX1.out
  have OS := Lib.hid os
  clear hv h0 hR hrun os hb1 hf k3 k4
  clear he
  go_enter Try.func6, Try.ntmps6
  obtain ⟨x0, x1, x2, x3, x4, xf, xz⟩ := bx_cells BX1.out
  go_wp2_with (first | (at_builtin; refine wpList_app rfl (.tmp 21) (.tmp 22) rfl rfl rfl rfl HRUN.out ?_))
  refine (set_val _ (words_below B1.out HV.out) H0.out).mono ?_
  rintro e w2 ⟨v2, rfl, o2, hb⟩
  have BX2 := Lib.hid (bx_below hb BX1.out)
  have B2 := Lib.hid (below_call hb B1.out (Nat.le_refl _))
  have WS2 := Lib.hid (own_below hb OS.out)
  have OV2 := Lib.hid o2
  have BD2 := Lib.hid hb
  clear o2 hb x0 x1 x2 x3 x4 xf xz BX1
  obtain ⟨x0, x1, x2, x3, x4, xf, xz⟩ := bx_cells BX2.out
  have E0 := HS0.out
  subst E0
  go_wp2_with fail
  have BY : Hid (Below w.heap.size w (w2.setCell ⟨w.heap.size, 0, none⟩ (.int .i64 2))) := below_set B2.out (Nat.le_refl _) _
  have WSY : Hid (Own (w.alloc (.cells #[.int .i64 k, .int .i64 xa, .int .i64 xb, .int .i64 xn, .int .u64 u] 35)) was zs (w2.setCell ⟨w.heap.size, 0, none⟩ (.int .i64 2))) := ownsRow_setCell_below WS2.out (by simp) _
  have OVY : Hid (Own w1 v2 ([] : List Int) (w2.setCell ⟨w.heap.size, 0, none⟩ (.int .i64 2))) := ownsRow_setCell_below OV2.out HLT.out _
  refine (play_val _ (words_below (new_below _ _) (words_below BY.out HV.out)) (ops_one _ _ _ _ _ _ (by decide) _ (by simp)) HR.out).mono ?_
  rintro e q1 ⟨vu, vg, rfl, ou, og, hb⟩
  have hx := below_call hb (new_below (w2.setCell ⟨w.heap.size, 0, none⟩ (.int .i64 2)) _) (Nat.le_refl _)
  have hn1 := new_below q1 (.cells #[.int .i64 0, .int .i64 0] 26)
  have hxn := below_call hn1 hx (Nat.le_refl _)
  have BQ := Lib.hid (below_call hxn BY.out (Nat.le_refl _))
  have WSQ := Lib.hid (own_below hxn WSY.out)
  have OVQ := Lib.hid (own_below hxn OVY.out)
  have UUQ := Lib.hid (words_below hn1 (own_words ou))
  clear ou og hb hx hn1 hxn x0 x1 x2 x3 x4 xf xz BY WSY OVY
  go_wp2_with fail
  refine (same_yes _ _ _ _ UUQ.out (own_words OVQ.out) (by simp)).mono ?_
  rintro e y1 ⟨rfl, hb⟩
  have BY1 := Lib.hid (below_call hb BQ.out (Nat.le_refl _))
  have WS1 := Lib.hid (own_below hb WSQ.out)
  have OV1 := Lib.hid (own_below hb OVQ.out)
  clear hb BQ WSQ OVQ UUQ
  go_wp2_with fail
  refine (same_yes _ _ _ _ (own_words WS1.out) (words_below BY1.out HV.out) (by omega)).mono ?_
  rintro e y2 ⟨rfl, hb⟩
  have BY2 := Lib.hid (below_call hb BY1.out (Nat.le_refl _))
  clear hb WS1
  rcases own_any OV1.out with rfl | ⟨g, cp, rfl⟩
  all_goals
    simp only [List.length_nil]
    clear OV1
    go_wp2_with fail
    refine (awake_any _).mono ?_
    rintro e wz ⟨rfl, hb⟩
    have BZ := Lib.hid (below_call hb BY2.out (Nat.le_refl _))
    clear hb
    go_wp2
    go_ret
    exact ⟨rfl, BZ.out⟩

set_option maxRecDepth 100000 in
set_option maxHeartbeats 4000000 in
theorem only_og (zs : List Int) (a : Option Addr) (c : Nat) (k xa xb xn u : Int) (R0 : PR) (o1 g1 : List Int) (r1 : Int) (w : World) (hv : Words w (.slice a zs.length c) zs) (hf : Fine (.slice a zs.length c)) (hn : zs.length ≤ 200) (k3 : k ≠ 3) (k4 : k ≠ 4) (h0 : playR zs [⟨2, xa, 0, 0, u⟩] = R0) (hR : playR zs [⟨2, xa, xb, xn, u⟩] = ⟨o1, g1, r1, 1, 0, 0⟩) (hpos : 0 < zs.length) (hol : o1.length = zs.length) (L : List Int) (hd : difR zs o1 = (L, 0)) (hL : L.length ≤ 200) (hpl : ∀ i : Nat, i < L.length → Place zs o1 xa 1 (L.getD i 0)) (hup : ∀ i : Nat, i + 1 < L.length → L.getD i 0 < L.getD (i + 1) 0) (_ : 0 ≤ xa ∧ xa ≤ 200) : Calls Try.prog 6 #[.slice a zs.length c, .agg #[.int .i64 k, .int .i64 xa, .int .i64 xb, .int .i64 xn, .int .u64 u]] w (Ret (.bool true) w) := by
  have HV := Lib.hid hv
  have H0 := Lib.hid h0
  have HR := Lib.hid hR
  have t1 : ¬ 200 < zs.length := by omega
  have t2 : (k == 3) = false := by simpa using k3
  have t3 : (k == 4) = false := by simpa using k4
  have t4 : (k != 3) = true := by simpa using k3
  have t5 : (k != 4) = true := by simpa using k4
  have HS0 : Hid (R0 = ⟨o1, g1, r1, 1, 0, 0⟩) := by show _ = _; rw [← h0, one_set2 zs xa xb xn u, hR]
  obtain ⟨was, w1, hrun, os, hb1⟩ := app_words (b := w.heap.size + 1) (W := w.alloc (.cells #[.int .i64 k, .int .i64 xa, .int .i64 xb, .int .i64 xn, .int .u64 u] 35)) (by simp) (words_below (new_below w _) hv) hf (by omega)
  have BX1 := Lib.hid (bx_below hb1 (bx_new w k xa xb xn u))
  have B1 := Lib.hid (below_call hb1 (new_below w (.cells #[.int .i64 k, .int .i64 xa, .int .i64 xb, .int .i64 xn, .int .u64 u] 35)) (Nat.le_refl _))
  obtain ⟨zb, off, cap', e, z1, z2, z3⟩ := words_some hv hpos
  have HZC := Lib.hid z3
  clear z3
  simp at e
  obtain ⟨rfl, rfl⟩ := e
  obtain ⟨wb, wcp, rfl, wge, wlt, _, _⟩ := own_row os rfl hpos
  simp at wge
  have HRUN := Lib.hid hrun
  have HLT : Hid (w.heap.size < w1.heap.size) := bx_lt BX1.out
  have OS := Lib.hid os
  clear hv h0 hR hrun os hb1 hf k3 k4
  have HPL := Lib.hid hpl
  have HUP := Lib.hid hup
  have HOL := Lib.hid hol
  have HD := Lib.hid hd
  clear hpl hup hol hd
  go_enter Try.func6, Try.ntmps6
  obtain ⟨x0, x1, x2, x3, x4, xf, xz⟩ := bx_cells BX1.out
  go_wp2_with (first | (at_builtin; refine wpList_app rfl (.tmp 21) (.tmp 22) rfl rfl rfl rfl HRUN.out ?_))
  refine (set_val _ (words_below B1.out HV.out) H0.out).mono ?_
  rintro e w2 ⟨v2, rfl, o2, hb⟩
  have BX2 := Lib.hid (bx_below hb BX1.out)
  have B2 := Lib.hid (below_call hb B1.out (Nat.le_refl _))
  have WS2 := Lib.hid (own_below hb OS.out)
  have OV2 := Lib.hid o2
  have BD2 := Lib.hid hb
  clear o2 hb x0 x1 x2 x3 x4 xf xz BX1
  obtain ⟨x0, x1, x2, x3, x4, xf, xz⟩ := bx_cells BX2.out
  have E0 := HS0.out
  subst E0
  go_wp2_with fail
  have BY : Hid (Below w.heap.size w (w2.setCell ⟨w.heap.size, 0, none⟩ (.int .i64 2))) := below_set B2.out (Nat.le_refl _) _
  have WSY : Hid (Own (w.alloc (.cells #[.int .i64 k, .int .i64 xa, .int .i64 xb, .int .i64 xn, .int .u64 u] 35)) (.slice (some ⟨wb, 0, none⟩) zs.length wcp) zs (w2.setCell ⟨w.heap.size, 0, none⟩ (.int .i64 2))) := ownsRow_setCell_below WS2.out (by simp) _
  have OVY : Hid (Own w1 v2 o1 (w2.setCell ⟨w.heap.size, 0, none⟩ (.int .i64 2))) := ownsRow_setCell_below OV2.out HLT.out _
  refine (play_val _ (words_below (new_below _ _) (words_below BY.out HV.out)) (ops_one _ _ _ _ _ _ (by decide) _ (by simp)) HR.out).mono ?_
  rintro e q1 ⟨vu, vg, rfl, ou, og, hb⟩
  have hx := below_call hb (new_below (w2.setCell ⟨w.heap.size, 0, none⟩ (.int .i64 2)) _) (Nat.le_refl _)
  have hn1 := new_below q1 (.cells #[.int .i64 r1, .int .i64 1] 26)
  have hxn := below_call hn1 hx (Nat.le_refl _)
  have BQ := Lib.hid (below_call hxn BY.out (Nat.le_refl _))
  have WSQ := Lib.hid (own_below hxn WSY.out)
  have OVQ := Lib.hid (own_below hxn OVY.out)
  have UUQ := Lib.hid (words_below hn1 (own_words ou))
  have CQ := Lib.hid (cnt_new q1 r1 1)
  clear ou og hb hx hn1 hxn x0 x1 x2 x3 x4 xf xz BY WSY OVY
  go_wp2_with fail
  refine (same_yes _ _ _ _ UUQ.out (own_words OVQ.out) (by have := HOL.out; omega)).mono ?_
  rintro e y1 ⟨rfl, hb⟩
  have BY1 := Lib.hid (below_call hb BQ.out (Nat.le_refl _))
  have WS1 := Lib.hid (own_below hb WSQ.out)
  have OV1 := Lib.hid (own_below hb OVQ.out)
  have C1 := Lib.hid (cnt_below hb CQ.out)
  clear hb BQ WSQ OVQ UUQ CQ
  go_wp2_with fail
  refine (same_yes _ _ _ _ (own_words WS1.out) (words_below BY1.out HV.out) (by omega)).mono ?_
  rintro e y2 ⟨rfl, hb⟩
  have BY2 := Lib.hid (below_call hb BY1.out (Nat.le_refl _))
  have WS2 := Lib.hid (own_below hb WS1.out)
  have OV2 := Lib.hid (own_below hb OV1.out)
  have C2 := Lib.hid (cnt_below hb C1.out)
  clear hb WS1 BY1 OV1 C1
  go_wp2_with fail
  refine (differ_val _ (words_below BY2.out HV.out) (own_words OV2.out) HD.out).mono ?_
  rintro e y3 ⟨vl, rfl, ol, hb⟩
  have BY3 := Lib.hid (below_call hb BY2.out (Nat.le_refl _))
  have WS3 := Lib.hid (own_below hb WS2.out)
  have OV3 := own_below hb OV2.out
  obtain ⟨u0, u1, uz⟩ := cnt_below hb C2.out
  obtain ⟨la, lc, rfl, lcells⟩ := ownI_any ol
  obtain ⟨vb, vcp, rfl, vge, vlt, vcells, vfree⟩ := own_row OV3 HOL.out hpos
  have HLC := Lib.hid lcells
  have HVC := Lib.hid vcells
  have HVF := Lib.hid vfree
  clear ol hb lcells vcells vfree BY2 WS2 OV2 C2 OV3
  go_wp2_with fail
  have hwv : wb < vb := Nat.lt_of_lt_of_le wlt vge
  have HWV := Lib.hid hwv
  have HZW : Hid (zb < vb) := by show zb < vb; omega
  have HWW : Hid (w.heap.size ≤ vb) := by show w.heap.size ≤ vb; omega
  clear hwv wge wlt vge u0 u1 uz
  go_loopw [16] (fun i wr => ∃ k : Nat, k ≤ L.length ∧ i = .int .i64 k ∧ Below y3.heap.size y3 wr) (fun i _ => L.length - (intOf i).toNat)
  case atStart => exact ⟨0, Nat.zero_le _, rfl, Below.refl _ _⟩
  case round =>
    obtain ⟨k', hk, rfl, hb⟩ := hrel
    by_cases hkl : k' < L.length
    · obtain ⟨lb, rfl, lz, LC⟩ := HLC.out (by omega)
      have l1 := (hb.cell (p := ⟨lb, k', none⟩) lz).trans (LC k' hkl)
      obtain ⟨p1, p2, p3, p4, p5⟩ := HPL.out k' hkl
      have hup : ∀ j, k' = j + 1 → L.getD j 0 < L.getD k' 0 := fun j h => by subst h; exact HUP.out j (by omega)
      have l0 := fun j (h : k' = j + 1) => (hb.cell (p := ⟨lb, j, none⟩) lz).trans (LC j (by omega))
      generalize L.getD k' 0 = x at *
      obtain ⟨p, rfl⟩ := Int.eq_ofNat_of_zero_le p1
      rw [Int.toNat_natCast] at p5
      have hpz : p < zs.length := by omega
      have c1 := ((below_call hb BY3.out (Nat.le_refl _)).cell (p := ⟨zb, off + p, none⟩) z2).trans (HZC.out p hpz)
      have c2 := (hb.cell (p := ⟨vb, p, none⟩) vlt).trans (HVC.out p hpz)
      have ne : (zs.getD p 0 == o1.getD p 0) = false := by simpa using p5
      generalize zs.getD p 0 = yz at *
      generalize o1.getD p 0 = yv at *
      have i1 : (0 : Int) ≤ (k' : Int) := by omega
      have i2 : (k' : Int) < (L.length : Int) := by omega
      have d1 : decide ((p : Int) < xa) = false := by simp; omega
      have d2 : decide (xa + 1 ≤ (p : Int)) = false := by simp; omega
      have d3 : IntKind.i64.wrap (xa + 1) = xa + 1 := IntWalk.i64_in _ (by omega)
      clear p5 LC
      rcases Nat.eq_zero_or_pos k' with hk0 | hk0
      · subst hk0
        clear l0 hup
        go_wp2_with fail
        go_quiet (fail)
        go_wp2
        exact ⟨⟨0 + 1, by omega, by go_num, below_drewN hb _⟩, by simp [intOf]; omega⟩
      · obtain ⟨j, rfl⟩ : ∃ j, k' = j + 1 := ⟨k' - 1, by omega⟩
        have l2 := l0 j rfl
        have hup2 := hup j rfl
        clear l0 hup
        generalize L.getD j 0 = x0 at *
        have e1 : decide ((p : Int) ≤ x0) = false := by simp; omega
        have e2 : IntKind.i64.wrap ((j : Int) + 1 - 1) = (j : Int) := by rw [IntWalk.i64_in _ (by omega)]; omega
        have e3 : (0 : Int) ≤ (j : Int) := by omega
        have e4 : (j : Int) < (L.length : Int) := by omega
        go_wp2_with fail
        go_quiet (fail)
        go_wp2
        exact ⟨⟨j + 1 + 1, by omega, by go_num, below_drewN hb _⟩, by simp [intOf]; omega⟩
    · have BR := Lib.hid (below_call hb BY3.out (Nat.le_refl _))
      have f1 := (hb.frozen (p := ⟨vb, 0, none⟩) vlt).trans (HVF.out 0)
      have WA := Lib.hid (words_store (words_below hb (own_words WS3.out)) (p := ⟨vb, 0, none⟩) (by have := HWV.out; show wb ≠ vb; omega) (.int .u64 7))
      have WB := Lib.hid (words_store (words_below BR.out HV.out) (p := ⟨vb, 0, none⟩) (by have := HZW.out; show zb ≠ vb; omega) (.int .u64 7))
      have BS : Hid (Below w.heap.size w (wr.setCell ⟨vb, 0, none⟩ (.int .u64 7))) := below_set BR.out HWW.out _
      have vlt' := Nat.lt_of_lt_of_le vlt hb.size
      have c2 := (hb.cell (p := ⟨vb, 0, none⟩) vlt).trans (HVC.out 0 hpos)
      clear hb
      go_wp2_with fail
      refine (same_yes _ _ _ _ WA.out WB.out (by omega)).mono ?_
      rintro e y5 ⟨rfl, hb⟩
      have BS2 := Lib.hid (below_call hb BS.out (Nat.le_refl _))
      clear hb
      go_wp2_with fail
      refine (awake_any _).mono ?_
      rintro e wz ⟨rfl, hb⟩
      have BZ := Lib.hid (below_call hb BS2.out (Nat.le_refl _))
      clear hb
      go_wp2
      go_ret
      exact ⟨rfl, BZ.out⟩

set_option maxRecDepth 100000 in
set_option maxHeartbeats 4000000 in
theorem only_ce (zs : List Int) (a : Option Addr) (c : Nat) (xa xb xn u : Int) (R0 : PR) (e1 : Int) (he : e1 ≠ 0) (w : World) (hv : Words w (.slice a zs.length c) zs) (hf : Fine (.slice a zs.length c)) (hn : zs.length ≤ 200) (h0 : playR zs [⟨2, xa, 0, 0, u⟩] = R0) (hR : playR zs [⟨3, xa, xb, xn, u⟩] = ⟨[], [], 0, 0, 0, e1⟩) : Calls Try.prog 6 #[.slice a zs.length c, .agg #[.int .i64 3, .int .i64 xa, .int .i64 xb, .int .i64 xn, .int .u64 u]] w (Ret (.bool true) w) := by
  have HV := Lib.hid hv
  have H0 := Lib.hid h0
  have HR := Lib.hid hR
  have t1 : ¬ 200 < zs.length := by omega
  have HC := Lib.hid ((one_copy2 zs xa xb xn u).trans hR)
  have t6 : (e1 != 0) = true := by simpa using he
  obtain ⟨was, w1, hrun, os, hb1⟩ := app_words (b := w.heap.size + 1) (W := w.alloc (.cells #[.int .i64 3, .int .i64 xa, .int .i64 xb, .int .i64 xn, .int .u64 u] 35)) (by simp) (words_below (new_below w _) hv) hf (by omega)
  have BX1 := Lib.hid (bx_below hb1 (bx_new w 3 xa xb xn u))
  have B1 := Lib.hid (below_call hb1 (new_below w (.cells #[.int .i64 3, .int .i64 xa, .int .i64 xb, .int .i64 xn, .int .u64 u] 35)) (Nat.le_refl _))
  have HRUN := Lib.hid hrun
  have OS := Lib.hid os
  clear hv h0 hR hrun os hb1 hf
  clear he
  go_enter Try.func6, Try.ntmps6
  obtain ⟨x0, x1, x2, x3, x4, xf, xz⟩ := bx_cells BX1.out
  go_wp2_with (first | (at_builtin; refine wpList_app rfl (.tmp 21) (.tmp 22) rfl rfl rfl rfl HRUN.out ?_))
  refine (set_val _ (words_below B1.out HV.out) H0.out).mono ?_
  rintro e w2 ⟨v2, rfl, o2, hb⟩
  have BX2 := Lib.hid (bx_below hb BX1.out)
  have B2 := Lib.hid (below_call hb B1.out (Nat.le_refl _))
  have WS2 := Lib.hid (own_below hb OS.out)
  have OV2 := Lib.hid o2
  have BD2 := Lib.hid hb
  clear o2 hb x0 x1 x2 x3 x4 xf xz BX1
  obtain ⟨x0, x1, x2, x3, x4, xf, xz⟩ := bx_cells BX2.out
  go_wp2_with fail
  refine (copy_val _ (words_below B2.out HV.out) HC.out).mono ?_
  rintro e w3 ⟨v3, rfl, o3, hb⟩
  have BX3 := Lib.hid (bx_below hb BX2.out)
  have BY := Lib.hid (below_call hb B2.out (Nat.le_refl _))
  have WSY := Lib.hid (own_below hb WS2.out)
  have OVY := Lib.hid o3
  clear o3 hb x0 x1 x2 x3 x4 xf xz BX2
  obtain ⟨x0, x1, x2, x3, x4, xf, xz⟩ := bx_cells BX3.out
  go_wp2_with fail
  go_quiet (fail)
  go_wp2_with fail
  refine (play_val _ (words_below (new_below _ _) (words_below (below_drewN BY.out _) HV.out)) (ops_one _ _ _ _ _ _ (by decide) _ (by simp)) HR.out).mono ?_
  rintro e q1 ⟨vu, vg, rfl, ou, og, hb⟩
  have hx := below_call hb (below_new (below_drewN (Below.refl w3.heap.size w3) _) (Nat.le_refl _) _) (Nat.le_refl _)
  have hn1 := new_below q1 (.cells #[.int .i64 0, .int .i64 0] 26)
  have hxn := below_call hn1 hx (Nat.le_refl _)
  have BQ := Lib.hid (below_call hxn BY.out (Nat.le_refl _))
  have WSQ := Lib.hid (own_below hxn WSY.out)
  have OVQ := Lib.hid (own_below hxn OVY.out)
  have UUQ := Lib.hid (words_below hn1 (own_words ou))
  clear ou og hb hx hn1 hxn x0 x1 x2 x3 x4 xf xz BY WSY OVY
  go_wp2_with fail
  refine (same_yes _ _ _ _ UUQ.out (own_words OVQ.out) (by simp)).mono ?_
  rintro e y1 ⟨rfl, hb⟩
  have BY1 := Lib.hid (below_call hb BQ.out (Nat.le_refl _))
  have WS1 := Lib.hid (own_below hb WSQ.out)
  have OV1 := Lib.hid (own_below hb OVQ.out)
  clear hb BQ WSQ OVQ UUQ
  go_wp2_with fail
  refine (same_yes _ _ _ _ (own_words WS1.out) (words_below BY1.out HV.out) (by omega)).mono ?_
  rintro e y2 ⟨rfl, hb⟩
  have BY2 := Lib.hid (below_call hb BY1.out (Nat.le_refl _))
  clear hb WS1
  rcases own_any OV1.out with rfl | ⟨g, cp, rfl⟩
  all_goals
    simp only [List.length_nil]
    clear OV1
    go_wp2_with fail
    refine (awake_any _).mono ?_
    rintro e wz ⟨rfl, hb⟩
    have BZ := Lib.hid (below_call hb BY2.out (Nat.le_refl _))
    clear hb
    go_wp2
    go_ret
    exact ⟨rfl, BZ.out⟩

set_option maxRecDepth 100000 in
set_option maxHeartbeats 4000000 in
theorem only_cg (zs : List Int) (a : Option Addr) (c : Nat) (xa xb xn u : Int) (R0 : PR) (o1 g1 : List Int) (r1 : Int) (w : World) (hv : Words w (.slice a zs.length c) zs) (hf : Fine (.slice a zs.length c)) (hn : zs.length ≤ 200) (h0 : playR zs [⟨2, xa, 0, 0, u⟩] = R0) (hR : playR zs [⟨3, xa, xb, xn, u⟩] = ⟨o1, g1, r1, xn, 0, 0⟩) (hpos : 0 < zs.length) (hol : o1.length = zs.length) (L : List Int) (hd : difR zs o1 = (L, 0)) (hL : L.length ≤ 200) (hpl : ∀ i : Nat, i < L.length → Place zs o1 xb xn (L.getD i 0)) (hup : ∀ i : Nat, i + 1 < L.length → L.getD i 0 < L.getD (i + 1) 0) (_ : 0 ≤ xb ∧ xb ≤ 200) (_ : 0 ≤ xn ∧ xn ≤ 200) : Calls Try.prog 6 #[.slice a zs.length c, .agg #[.int .i64 3, .int .i64 xa, .int .i64 xb, .int .i64 xn, .int .u64 u]] w (Ret (.bool true) w) := by
  have HV := Lib.hid hv
  have H0 := Lib.hid h0
  have HR := Lib.hid hR
  have t1 : ¬ 200 < zs.length := by omega
  have HC := Lib.hid ((one_copy2 zs xa xb xn u).trans hR)
  obtain ⟨was, w1, hrun, os, hb1⟩ := app_words (b := w.heap.size + 1) (W := w.alloc (.cells #[.int .i64 3, .int .i64 xa, .int .i64 xb, .int .i64 xn, .int .u64 u] 35)) (by simp) (words_below (new_below w _) hv) hf (by omega)
  have BX1 := Lib.hid (bx_below hb1 (bx_new w 3 xa xb xn u))
  have B1 := Lib.hid (below_call hb1 (new_below w (.cells #[.int .i64 3, .int .i64 xa, .int .i64 xb, .int .i64 xn, .int .u64 u] 35)) (Nat.le_refl _))
  obtain ⟨zb, off, cap', e, z1, z2, z3⟩ := words_some hv hpos
  have HZC := Lib.hid z3
  clear z3
  simp at e
  obtain ⟨rfl, rfl⟩ := e
  obtain ⟨wb, wcp, rfl, wge, wlt, _, _⟩ := own_row os rfl hpos
  simp at wge
  have HRUN := Lib.hid hrun
  have OS := Lib.hid os
  clear hv h0 hR hrun os hb1 hf
  have HPL := Lib.hid hpl
  have HUP := Lib.hid hup
  have HOL := Lib.hid hol
  have HD := Lib.hid hd
  clear hpl hup hol hd
  go_enter Try.func6, Try.ntmps6
  obtain ⟨x0, x1, x2, x3, x4, xf, xz⟩ := bx_cells BX1.out
  go_wp2_with (first | (at_builtin; refine wpList_app rfl (.tmp 21) (.tmp 22) rfl rfl rfl rfl HRUN.out ?_))
  refine (set_val _ (words_below B1.out HV.out) H0.out).mono ?_
  rintro e w2 ⟨v2, rfl, o2, hb⟩
  have BX2 := Lib.hid (bx_below hb BX1.out)
  have B2 := Lib.hid (below_call hb B1.out (Nat.le_refl _))
  have WS2 := Lib.hid (own_below hb OS.out)
  have OV2 := Lib.hid o2
  have BD2 := Lib.hid hb
  clear o2 hb x0 x1 x2 x3 x4 xf xz BX1
  obtain ⟨x0, x1, x2, x3, x4, xf, xz⟩ := bx_cells BX2.out
  go_wp2_with fail
  refine (copy_val _ (words_below B2.out HV.out) HC.out).mono ?_
  rintro e w3 ⟨v3, rfl, o3, hb⟩
  have BX3 := Lib.hid (bx_below hb BX2.out)
  have BY := Lib.hid (below_call hb B2.out (Nat.le_refl _))
  have WSY := Lib.hid (own_below hb WS2.out)
  have OVY := Lib.hid o3
  clear o3 hb x0 x1 x2 x3 x4 xf xz BX2
  obtain ⟨x0, x1, x2, x3, x4, xf, xz⟩ := bx_cells BX3.out
  go_wp2_with fail
  go_quiet (fail)
  go_wp2_with fail
  refine (play_val _ (words_below (new_below _ _) (words_below (below_drewN BY.out _) HV.out)) (ops_one _ _ _ _ _ _ (by decide) _ (by simp)) HR.out).mono ?_
  rintro e q1 ⟨vu, vg, rfl, ou, og, hb⟩
  have hx := below_call hb (below_new (below_drewN (Below.refl w3.heap.size w3) _) (Nat.le_refl _) _) (Nat.le_refl _)
  have hn1 := new_below q1 (.cells #[.int .i64 r1, .int .i64 xn] 26)
  have hxn := below_call hn1 hx (Nat.le_refl _)
  have BQ := Lib.hid (below_call hxn BY.out (Nat.le_refl _))
  have WSQ := Lib.hid (own_below hxn WSY.out)
  have OVQ := Lib.hid (own_below hxn OVY.out)
  have UUQ := Lib.hid (words_below hn1 (own_words ou))
  have CQ := Lib.hid (cnt_new q1 r1 xn)
  clear ou og hb hx hn1 hxn x0 x1 x2 x3 x4 xf xz BY WSY OVY
  go_wp2_with fail
  refine (same_yes _ _ _ _ UUQ.out (own_words OVQ.out) (by have := HOL.out; omega)).mono ?_
  rintro e y1 ⟨rfl, hb⟩
  have BY1 := Lib.hid (below_call hb BQ.out (Nat.le_refl _))
  have WS1 := Lib.hid (own_below hb WSQ.out)
  have OV1 := Lib.hid (own_below hb OVQ.out)
  have C1 := Lib.hid (cnt_below hb CQ.out)
  clear hb BQ WSQ OVQ UUQ CQ
  go_wp2_with fail
  refine (same_yes _ _ _ _ (own_words WS1.out) (words_below BY1.out HV.out) (by omega)).mono ?_
  rintro e y2 ⟨rfl, hb⟩
  have BY2 := Lib.hid (below_call hb BY1.out (Nat.le_refl _))
  have WS2 := Lib.hid (own_below hb WS1.out)
  have OV2 := Lib.hid (own_below hb OV1.out)
  have C2 := Lib.hid (cnt_below hb C1.out)
  clear hb WS1 BY1 OV1 C1
  go_wp2_with fail
  refine (differ_val _ (words_below BY2.out HV.out) (own_words OV2.out) HD.out).mono ?_
  rintro e y3 ⟨vl, rfl, ol, hb⟩
  have BY3 := Lib.hid (below_call hb BY2.out (Nat.le_refl _))
  have WS3 := Lib.hid (own_below hb WS2.out)
  have OV3 := own_below hb OV2.out
  obtain ⟨u0, u1, uz⟩ := cnt_below hb C2.out
  obtain ⟨la, lc, rfl, lcells⟩ := ownI_any ol
  obtain ⟨vb, vcp, rfl, vge, vlt, vcells, vfree⟩ := own_row OV3 HOL.out hpos
  have HLC := Lib.hid lcells
  have HVC := Lib.hid vcells
  have HVF := Lib.hid vfree
  clear ol hb lcells vcells vfree BY2 WS2 OV2 C2 OV3
  go_wp2_with fail
  have hwv : wb < vb := Nat.lt_of_lt_of_le wlt (Nat.le_trans BD2.out.size vge)
  have HWV := Lib.hid hwv
  have HZW : Hid (zb < vb) := by show zb < vb; omega
  have HWW : Hid (w.heap.size ≤ vb) := by show w.heap.size ≤ vb; omega
  clear hwv wge wlt vge u0 u1 uz BX3 HC
  go_loopw [16] (fun i wr => ∃ k : Nat, k ≤ L.length ∧ i = .int .i64 k ∧ Below y3.heap.size y3 wr) (fun i _ => L.length - (intOf i).toNat)
  case atStart => exact ⟨0, Nat.zero_le _, rfl, Below.refl _ _⟩
  case round =>
    obtain ⟨k', hk, rfl, hb⟩ := hrel
    by_cases hkl : k' < L.length
    · obtain ⟨lb, rfl, lz, LC⟩ := HLC.out (by omega)
      have l1 := (hb.cell (p := ⟨lb, k', none⟩) lz).trans (LC k' hkl)
      obtain ⟨p1, p2, p3, p4, p5⟩ := HPL.out k' hkl
      have hup : ∀ j, k' = j + 1 → L.getD j 0 < L.getD k' 0 := fun j h => by subst h; exact HUP.out j (by omega)
      have l0 := fun j (h : k' = j + 1) => (hb.cell (p := ⟨lb, j, none⟩) lz).trans (LC j (by omega))
      generalize L.getD k' 0 = x at *
      obtain ⟨p, rfl⟩ := Int.eq_ofNat_of_zero_le p1
      rw [Int.toNat_natCast] at p5
      have hpz : p < zs.length := by omega
      have c1 := ((below_call hb BY3.out (Nat.le_refl _)).cell (p := ⟨zb, off + p, none⟩) z2).trans (HZC.out p hpz)
      have c2 := (hb.cell (p := ⟨vb, p, none⟩) vlt).trans (HVC.out p hpz)
      have ne : (zs.getD p 0 == o1.getD p 0) = false := by simpa using p5
      generalize zs.getD p 0 = yz at *
      generalize o1.getD p 0 = yv at *
      have i1 : (0 : Int) ≤ (k' : Int) := by omega
      have i2 : (k' : Int) < (L.length : Int) := by omega
      have d1 : decide ((p : Int) < xb) = false := by simp; omega
      have d2 : decide (xb + xn ≤ (p : Int)) = false := by simp; omega
      have d3 : IntKind.i64.wrap (xb + xn) = xb + xn := IntWalk.i64_in _ (by omega)
      clear p5 LC
      rcases Nat.eq_zero_or_pos k' with hk0 | hk0
      · subst hk0
        clear l0 hup
        go_wp2_with fail
        go_quiet (fail)
        go_wp2
        exact ⟨⟨0 + 1, by omega, by go_num, below_drewN hb _⟩, by simp [intOf]; omega⟩
      · obtain ⟨j, rfl⟩ : ∃ j, k' = j + 1 := ⟨k' - 1, by omega⟩
        have l2 := l0 j rfl
        have hup2 := hup j rfl
        clear l0 hup
        generalize L.getD j 0 = x0 at *
        have e1 : decide ((p : Int) ≤ x0) = false := by simp; omega
        have e2 : IntKind.i64.wrap ((j : Int) + 1 - 1) = (j : Int) := by rw [IntWalk.i64_in _ (by omega)]; omega
        have e3 : (0 : Int) ≤ (j : Int) := by omega
        have e4 : (j : Int) < (L.length : Int) := by omega
        go_wp2_with fail
        go_quiet (fail)
        go_wp2
        exact ⟨⟨j + 1 + 1, by omega, by go_num, below_drewN hb _⟩, by simp [intOf]; omega⟩
    · have BR := Lib.hid (below_call hb BY3.out (Nat.le_refl _))
      have f1 := (hb.frozen (p := ⟨vb, 0, none⟩) vlt).trans (HVF.out 0)
      have WA := Lib.hid (words_store (words_below hb (own_words WS3.out)) (p := ⟨vb, 0, none⟩) (by have := HWV.out; show wb ≠ vb; omega) (.int .u64 7))
      have WB := Lib.hid (words_store (words_below BR.out HV.out) (p := ⟨vb, 0, none⟩) (by have := HZW.out; show zb ≠ vb; omega) (.int .u64 7))
      have BS : Hid (Below w.heap.size w (wr.setCell ⟨vb, 0, none⟩ (.int .u64 7))) := below_set BR.out HWW.out _
      have vlt' := Nat.lt_of_lt_of_le vlt hb.size
      have c2 := (hb.cell (p := ⟨vb, 0, none⟩) vlt).trans (HVC.out 0 hpos)
      clear hb
      go_wp2_with fail
      refine (same_yes _ _ _ _ WA.out WB.out (by omega)).mono ?_
      rintro e y5 ⟨rfl, hb⟩
      have BS2 := Lib.hid (below_call hb BS.out (Nat.le_refl _))
      clear hb
      go_wp2_with fail
      refine (awake_any _).mono ?_
      rintro e wz ⟨rfl, hb⟩
      have BZ := Lib.hid (below_call hb BS2.out (Nat.le_refl _))
      clear hb
      go_wp2
      go_ret
      exact ⟨rfl, BZ.out⟩

set_option maxRecDepth 100000 in
set_option maxHeartbeats 4000000 in
theorem only_le (zs : List Int) (a : Option Addr) (c : Nat) (xa xb xn u : Int) (R0 : PR) (e1 : Int) (he : e1 ≠ 0) (w : World) (hv : Words w (.slice a zs.length c) zs) (hf : Fine (.slice a zs.length c)) (hn : zs.length ≤ 200) (h0 : playR zs [⟨2, xa, 0, 0, u⟩] = R0) (hR : playR zs [⟨4, xa, xb, xn, u⟩] = ⟨[], [], 0, 0, 0, e1⟩) : Calls Try.prog 6 #[.slice a zs.length c, .agg #[.int .i64 4, .int .i64 xa, .int .i64 xb, .int .i64 xn, .int .u64 u]] w (Ret (.bool true) w) := by
  have HV := Lib.hid hv
  have H0 := Lib.hid h0
  have HR := Lib.hid hR
  have t1 : ¬ 200 < zs.length := by omega
  have HC := Lib.hid ((one_clear2 zs xa xb xn u).trans hR)
  have t6 : (e1 != 0) = true := by simpa using he
  obtain ⟨was, w1, hrun, os, hb1⟩ := app_words (b := w.heap.size + 1) (W := w.alloc (.cells #[.int .i64 4, .int .i64 xa, .int .i64 xb, .int .i64 xn, .int .u64 u] 35)) (by simp) (words_below (new_below w _) hv) hf (by omega)
  have BX1 := Lib.hid (bx_below hb1 (bx_new w 4 xa xb xn u))
  have B1 := Lib.hid (below_call hb1 (new_below w (.cells #[.int .i64 4, .int .i64 xa, .int .i64 xb, .int .i64 xn, .int .u64 u] 35)) (Nat.le_refl _))
  have HRUN := Lib.hid hrun
  have OS := Lib.hid os
  clear hv h0 hR hrun os hb1 hf
  clear he
  go_enter Try.func6, Try.ntmps6
  obtain ⟨x0, x1, x2, x3, x4, xf, xz⟩ := bx_cells BX1.out
  go_wp2_with (first | (at_builtin; refine wpList_app rfl (.tmp 21) (.tmp 22) rfl rfl rfl rfl HRUN.out ?_))
  refine (set_val _ (words_below B1.out HV.out) H0.out).mono ?_
  rintro e w2 ⟨v2, rfl, o2, hb⟩
  have BX2 := Lib.hid (bx_below hb BX1.out)
  have B2 := Lib.hid (below_call hb B1.out (Nat.le_refl _))
  have WS2 := Lib.hid (own_below hb OS.out)
  have OV2 := Lib.hid o2
  have BD2 := Lib.hid hb
  clear o2 hb x0 x1 x2 x3 x4 xf xz BX1
  obtain ⟨x0, x1, x2, x3, x4, xf, xz⟩ := bx_cells BX2.out
  go_wp2_with fail
  refine (clear_val _ (words_below B2.out HV.out) HC.out).mono ?_
  rintro e w3 ⟨v3, rfl, o3, hb⟩
  have BX3 := Lib.hid (bx_below hb BX2.out)
  have BY := Lib.hid (below_call hb B2.out (Nat.le_refl _))
  have WSY := Lib.hid (own_below hb WS2.out)
  have OVY := Lib.hid o3
  clear o3 hb x0 x1 x2 x3 x4 xf xz BX2
  obtain ⟨x0, x1, x2, x3, x4, xf, xz⟩ := bx_cells BX3.out
  go_wp2_with fail
  refine (play_val _ (words_below (new_below _ _) (words_below BY.out HV.out)) (ops_one _ _ _ _ _ _ (by decide) _ (by simp)) HR.out).mono ?_
  rintro e q1 ⟨vu, vg, rfl, ou, og, hb⟩
  have hx := below_call hb (new_below w3 _) (Nat.le_refl _)
  have hn1 := new_below q1 (.cells #[.int .i64 0, .int .i64 0] 26)
  have hxn := below_call hn1 hx (Nat.le_refl _)
  have BQ := Lib.hid (below_call hxn BY.out (Nat.le_refl _))
  have WSQ := Lib.hid (own_below hxn WSY.out)
  have OVQ := Lib.hid (own_below hxn OVY.out)
  have UUQ := Lib.hid (words_below hn1 (own_words ou))
  clear ou og hb hx hn1 hxn x0 x1 x2 x3 x4 xf xz BY WSY OVY
  go_wp2_with fail
  refine (same_yes _ _ _ _ UUQ.out (own_words OVQ.out) (by simp)).mono ?_
  rintro e y1 ⟨rfl, hb⟩
  have BY1 := Lib.hid (below_call hb BQ.out (Nat.le_refl _))
  have WS1 := Lib.hid (own_below hb WSQ.out)
  have OV1 := Lib.hid (own_below hb OVQ.out)
  clear hb BQ WSQ OVQ UUQ
  go_wp2_with fail
  refine (same_yes _ _ _ _ (own_words WS1.out) (words_below BY1.out HV.out) (by omega)).mono ?_
  rintro e y2 ⟨rfl, hb⟩
  have BY2 := Lib.hid (below_call hb BY1.out (Nat.le_refl _))
  clear hb WS1
  rcases own_any OV1.out with rfl | ⟨g, cp, rfl⟩
  all_goals
    simp only [List.length_nil]
    clear OV1
    go_wp2_with fail
    refine (awake_any _).mono ?_
    rintro e wz ⟨rfl, hb⟩
    have BZ := Lib.hid (below_call hb BY2.out (Nat.le_refl _))
    clear hb
    go_wp2
    go_ret
    exact ⟨rfl, BZ.out⟩

set_option maxRecDepth 100000 in
set_option maxHeartbeats 4000000 in
theorem only_lg (zs : List Int) (a : Option Addr) (c : Nat) (xa xb xn u : Int) (R0 : PR) (o1 g1 : List Int) (r1 : Int) (w : World) (hv : Words w (.slice a zs.length c) zs) (hf : Fine (.slice a zs.length c)) (hn : zs.length ≤ 200) (h0 : playR zs [⟨2, xa, 0, 0, u⟩] = R0) (hR : playR zs [⟨4, xa, xb, xn, u⟩] = ⟨o1, g1, r1, xn, 0, 0⟩) (hpos : 0 < zs.length) (hol : o1.length = zs.length) (L : List Int) (hd : difR zs o1 = (L, 0)) (hL : L.length ≤ 200) (hpl : ∀ i : Nat, i < L.length → Place zs o1 xa xn (L.getD i 0)) (hup : ∀ i : Nat, i + 1 < L.length → L.getD i 0 < L.getD (i + 1) 0) (_ : 0 ≤ xa ∧ xa ≤ 200) (_ : 0 ≤ xn ∧ xn ≤ 200) : Calls Try.prog 6 #[.slice a zs.length c, .agg #[.int .i64 4, .int .i64 xa, .int .i64 xb, .int .i64 xn, .int .u64 u]] w (Ret (.bool true) w) := by
  have HV := Lib.hid hv
  have H0 := Lib.hid h0
  have HR := Lib.hid hR
  have t1 : ¬ 200 < zs.length := by omega
  have HC := Lib.hid ((one_clear2 zs xa xb xn u).trans hR)
  obtain ⟨was, w1, hrun, os, hb1⟩ := app_words (b := w.heap.size + 1) (W := w.alloc (.cells #[.int .i64 4, .int .i64 xa, .int .i64 xb, .int .i64 xn, .int .u64 u] 35)) (by simp) (words_below (new_below w _) hv) hf (by omega)
  have BX1 := Lib.hid (bx_below hb1 (bx_new w 4 xa xb xn u))
  have B1 := Lib.hid (below_call hb1 (new_below w (.cells #[.int .i64 4, .int .i64 xa, .int .i64 xb, .int .i64 xn, .int .u64 u] 35)) (Nat.le_refl _))
  obtain ⟨zb, off, cap', e, z1, z2, z3⟩ := words_some hv hpos
  have HZC := Lib.hid z3
  clear z3
  simp at e
  obtain ⟨rfl, rfl⟩ := e
  obtain ⟨wb, wcp, rfl, wge, wlt, _, _⟩ := own_row os rfl hpos
  simp at wge
  have HRUN := Lib.hid hrun
  have OS := Lib.hid os
  clear hv h0 hR hrun os hb1 hf
  have HPL := Lib.hid hpl
  have HUP := Lib.hid hup
  have HOL := Lib.hid hol
  have HD := Lib.hid hd
  clear hpl hup hol hd
  go_enter Try.func6, Try.ntmps6
  obtain ⟨x0, x1, x2, x3, x4, xf, xz⟩ := bx_cells BX1.out
  go_wp2_with (first | (at_builtin; refine wpList_app rfl (.tmp 21) (.tmp 22) rfl rfl rfl rfl HRUN.out ?_))
  refine (set_val _ (words_below B1.out HV.out) H0.out).mono ?_
  rintro e w2 ⟨v2, rfl, o2, hb⟩
  have BX2 := Lib.hid (bx_below hb BX1.out)
  have B2 := Lib.hid (below_call hb B1.out (Nat.le_refl _))
  have WS2 := Lib.hid (own_below hb OS.out)
  have OV2 := Lib.hid o2
  have BD2 := Lib.hid hb
  clear o2 hb x0 x1 x2 x3 x4 xf xz BX1
  obtain ⟨x0, x1, x2, x3, x4, xf, xz⟩ := bx_cells BX2.out
  go_wp2_with fail
  refine (clear_val _ (words_below B2.out HV.out) HC.out).mono ?_
  rintro e w3 ⟨v3, rfl, o3, hb⟩
  have BX3 := Lib.hid (bx_below hb BX2.out)
  have BY := Lib.hid (below_call hb B2.out (Nat.le_refl _))
  have WSY := Lib.hid (own_below hb WS2.out)
  have OVY := Lib.hid o3
  clear o3 hb x0 x1 x2 x3 x4 xf xz BX2
  obtain ⟨x0, x1, x2, x3, x4, xf, xz⟩ := bx_cells BX3.out
  go_wp2_with fail
  refine (play_val _ (words_below (new_below _ _) (words_below BY.out HV.out)) (ops_one _ _ _ _ _ _ (by decide) _ (by simp)) HR.out).mono ?_
  rintro e q1 ⟨vu, vg, rfl, ou, og, hb⟩
  have hx := below_call hb (new_below w3 _) (Nat.le_refl _)
  have hn1 := new_below q1 (.cells #[.int .i64 r1, .int .i64 xn] 26)
  have hxn := below_call hn1 hx (Nat.le_refl _)
  have BQ := Lib.hid (below_call hxn BY.out (Nat.le_refl _))
  have WSQ := Lib.hid (own_below hxn WSY.out)
  have OVQ := Lib.hid (own_below hxn OVY.out)
  have UUQ := Lib.hid (words_below hn1 (own_words ou))
  have CQ := Lib.hid (cnt_new q1 r1 xn)
  clear ou og hb hx hn1 hxn x0 x1 x2 x3 x4 xf xz BY WSY OVY
  go_wp2_with fail
  refine (same_yes _ _ _ _ UUQ.out (own_words OVQ.out) (by have := HOL.out; omega)).mono ?_
  rintro e y1 ⟨rfl, hb⟩
  have BY1 := Lib.hid (below_call hb BQ.out (Nat.le_refl _))
  have WS1 := Lib.hid (own_below hb WSQ.out)
  have OV1 := Lib.hid (own_below hb OVQ.out)
  have C1 := Lib.hid (cnt_below hb CQ.out)
  clear hb BQ WSQ OVQ UUQ CQ
  go_wp2_with fail
  refine (same_yes _ _ _ _ (own_words WS1.out) (words_below BY1.out HV.out) (by omega)).mono ?_
  rintro e y2 ⟨rfl, hb⟩
  have BY2 := Lib.hid (below_call hb BY1.out (Nat.le_refl _))
  have WS2 := Lib.hid (own_below hb WS1.out)
  have OV2 := Lib.hid (own_below hb OV1.out)
  have C2 := Lib.hid (cnt_below hb C1.out)
  clear hb WS1 BY1 OV1 C1
  go_wp2_with fail
  refine (differ_val _ (words_below BY2.out HV.out) (own_words OV2.out) HD.out).mono ?_
  rintro e y3 ⟨vl, rfl, ol, hb⟩
  have BY3 := Lib.hid (below_call hb BY2.out (Nat.le_refl _))
  have WS3 := Lib.hid (own_below hb WS2.out)
  have OV3 := own_below hb OV2.out
  obtain ⟨u0, u1, uz⟩ := cnt_below hb C2.out
  obtain ⟨la, lc, rfl, lcells⟩ := ownI_any ol
  obtain ⟨vb, vcp, rfl, vge, vlt, vcells, vfree⟩ := own_row OV3 HOL.out hpos
  have HLC := Lib.hid lcells
  have HVC := Lib.hid vcells
  have HVF := Lib.hid vfree
  clear ol hb lcells vcells vfree BY2 WS2 OV2 C2 OV3
  go_wp2_with fail
  have hwv : wb < vb := Nat.lt_of_lt_of_le wlt (Nat.le_trans BD2.out.size vge)
  have HWV := Lib.hid hwv
  have HZW : Hid (zb < vb) := by show zb < vb; omega
  have HWW : Hid (w.heap.size ≤ vb) := by show w.heap.size ≤ vb; omega
  clear hwv wge wlt vge u0 u1 uz BX3 HC
  go_loopw [16] (fun i wr => ∃ k : Nat, k ≤ L.length ∧ i = .int .i64 k ∧ Below y3.heap.size y3 wr) (fun i _ => L.length - (intOf i).toNat)
  case atStart => exact ⟨0, Nat.zero_le _, rfl, Below.refl _ _⟩
  case round =>
    obtain ⟨k', hk, rfl, hb⟩ := hrel
    by_cases hkl : k' < L.length
    · obtain ⟨lb, rfl, lz, LC⟩ := HLC.out (by omega)
      have l1 := (hb.cell (p := ⟨lb, k', none⟩) lz).trans (LC k' hkl)
      obtain ⟨p1, p2, p3, p4, p5⟩ := HPL.out k' hkl
      have hup : ∀ j, k' = j + 1 → L.getD j 0 < L.getD k' 0 := fun j h => by subst h; exact HUP.out j (by omega)
      have l0 := fun j (h : k' = j + 1) => (hb.cell (p := ⟨lb, j, none⟩) lz).trans (LC j (by omega))
      generalize L.getD k' 0 = x at *
      obtain ⟨p, rfl⟩ := Int.eq_ofNat_of_zero_le p1
      rw [Int.toNat_natCast] at p5
      have hpz : p < zs.length := by omega
      have c1 := ((below_call hb BY3.out (Nat.le_refl _)).cell (p := ⟨zb, off + p, none⟩) z2).trans (HZC.out p hpz)
      have c2 := (hb.cell (p := ⟨vb, p, none⟩) vlt).trans (HVC.out p hpz)
      have ne : (zs.getD p 0 == o1.getD p 0) = false := by simpa using p5
      generalize zs.getD p 0 = yz at *
      generalize o1.getD p 0 = yv at *
      have i1 : (0 : Int) ≤ (k' : Int) := by omega
      have i2 : (k' : Int) < (L.length : Int) := by omega
      have d1 : decide ((p : Int) < xa) = false := by simp; omega
      have d2 : decide (xa + xn ≤ (p : Int)) = false := by simp; omega
      have d3 : IntKind.i64.wrap (xa + xn) = xa + xn := IntWalk.i64_in _ (by omega)
      clear p5 LC
      rcases Nat.eq_zero_or_pos k' with hk0 | hk0
      · subst hk0
        clear l0 hup
        go_wp2_with fail
        go_quiet (fail)
        go_wp2
        exact ⟨⟨0 + 1, by omega, by go_num, below_drewN hb _⟩, by simp [intOf]; omega⟩
      · obtain ⟨j, rfl⟩ : ∃ j, k' = j + 1 := ⟨k' - 1, by omega⟩
        have l2 := l0 j rfl
        have hup2 := hup j rfl
        clear l0 hup
        generalize L.getD j 0 = x0 at *
        have e1 : decide ((p : Int) ≤ x0) = false := by simp; omega
        have e2 : IntKind.i64.wrap ((j : Int) + 1 - 1) = (j : Int) := by rw [IntWalk.i64_in _ (by omega)]; omega
        have e3 : (0 : Int) ≤ (j : Int) := by omega
        have e4 : (j : Int) < (L.length : Int) := by omega
        go_wp2_with fail
        go_quiet (fail)
        go_wp2
        exact ⟨⟨j + 1 + 1, by omega, by go_num, below_drewN hb _⟩, by simp [intOf]; omega⟩
    · have BR := Lib.hid (below_call hb BY3.out (Nat.le_refl _))
      have f1 := (hb.frozen (p := ⟨vb, 0, none⟩) vlt).trans (HVF.out 0)
      have WA := Lib.hid (words_store (words_below hb (own_words WS3.out)) (p := ⟨vb, 0, none⟩) (by have := HWV.out; show wb ≠ vb; omega) (.int .u64 7))
      have WB := Lib.hid (words_store (words_below BR.out HV.out) (p := ⟨vb, 0, none⟩) (by have := HZW.out; show zb ≠ vb; omega) (.int .u64 7))
      have BS : Hid (Below w.heap.size w (wr.setCell ⟨vb, 0, none⟩ (.int .u64 7))) := below_set BR.out HWW.out _
      have vlt' := Nat.lt_of_lt_of_le vlt hb.size
      have c2 := (hb.cell (p := ⟨vb, 0, none⟩) vlt).trans (HVC.out 0 hpos)
      clear hb
      go_wp2_with fail
      refine (same_yes _ _ _ _ WA.out WB.out (by omega)).mono ?_
      rintro e y5 ⟨rfl, hb⟩
      have BS2 := Lib.hid (below_call hb BS.out (Nat.le_refl _))
      clear hb
      go_wp2_with fail
      refine (awake_any _).mono ?_
      rintro e wz ⟨rfl, hb⟩
      have BZ := Lib.hid (below_call hb BS2.out (Nat.le_refl _))
      clear hb
      go_wp2
      go_ret
      exact ⟨rfl, BZ.out⟩

theorem difR_good {zs ys : List Int} (h1 : chkA zs = 0) (h2 : chkA ys = 0) (h3 : ys.length = zs.length) : difR zs ys = (difTo zs ys zs.length, 0) := by
  unfold difR
  rw [if_neg (by simpa using h1), if_neg (by simpa using h2), if_neg (by simpa using h3.symm)]
theorem only_walk (zs : List Int) (k xa xb xn u : Int) (v : Value) (w : World) (hv : Words w v zs) (hf : Fine v) : Calls Try.prog 6 #[v, .agg #[.int .i64 k, .int .i64 xa, .int .i64 xb, .int .i64 xn, .int .u64 u]] w (Ret (.bool true) w) := by
  obtain ⟨a, c, rfl⟩ := words_slice hv
  by_cases h : 200 < zs.length
  · exact only_far a _ c k xa xb xn u w h
  · by_cases k3 : k = 3
    · subst k3
      by_cases he : (playR zs [⟨3, xa, xb, xn, u⟩]).e = 0
      · obtain ⟨hc, ho, hR⟩ := one_good he
        have hl := opOut_length zs _ ho
        have hco := chk_keeps hc hl (opOut_first zs _ ho)
        obtain ⟨l1, _⟩ := chk_ok hc
        have hb := bd3 ho
        have hw : opW ⟨3, xa, xb, xn, u⟩ = xn := by simp [opW]
        rw [hw] at hR
        exact only_cg zs a c xa xb xn u _ _ _ _ w hv hf (by omega) rfl hR (by omega) hl (difTo zs (opOut zs ⟨3, xa, xb, xn, u⟩) zs.length) (difR_good hc hco hl) (by have := difTo_length zs (opOut zs ⟨3, xa, xb, xn, u⟩) zs.length; omega) (fun i hi => place_of (fun j hj hd => chg3 ho hj hd) hi) (fun i hi => difTo_up hi) (by omega) (by omega)
      · obtain ⟨e1, h1, hR⟩ := one_bad he
        exact only_ce zs a c xa xb xn u _ e1 h1 w hv hf (by omega) rfl hR
    · by_cases k4 : k = 4
      · subst k4
        by_cases he : (playR zs [⟨4, xa, xb, xn, u⟩]).e = 0
        · obtain ⟨hc, ho, hR⟩ := one_good he
          have hl := opOut_length zs _ ho
          have hco := chk_keeps hc hl (opOut_first zs _ ho)
          obtain ⟨l1, _⟩ := chk_ok hc
          have hb := bd4 ho
          have hw : opW ⟨4, xa, xb, xn, u⟩ = xn := by simp [opW]
          rw [hw] at hR
          exact only_lg zs a c xa xb xn u _ _ _ _ w hv hf (by omega) rfl hR (by omega) hl (difTo zs (opOut zs ⟨4, xa, xb, xn, u⟩) zs.length) (difR_good hc hco hl) (by have := difTo_length zs (opOut zs ⟨4, xa, xb, xn, u⟩) zs.length; omega) (fun i hi => place_of (fun j hj hd => chg4 ho hj hd) hi) (fun i hi => difTo_up hi) (by omega) (by omega)
        · obtain ⟨e1, h1, hR⟩ := one_bad he
          exact only_le zs a c xa xb xn u _ e1 h1 w hv hf (by omega) rfl hR
      · by_cases he : (playR zs [⟨2, xa, xb, xn, u⟩]).e = 0
        · obtain ⟨hc, ho, hR⟩ := one_good he
          have hl := opOut_length zs _ ho
          have hco := chk_keeps hc hl (opOut_first zs _ ho)
          obtain ⟨l1, _⟩ := chk_ok hc
          have hb := bd2 ho
          have hw : opW ⟨2, xa, xb, xn, u⟩ = 1 := by simp [opW]
          rw [hw] at hR
          exact only_og zs a c k xa xb xn u _ _ _ _ w hv hf (by omega) k3 k4 rfl hR (by omega) hl (difTo zs (opOut zs ⟨2, xa, xb, xn, u⟩) zs.length) (difR_good hc hco hl) (by have := difTo_length zs (opOut zs ⟨2, xa, xb, xn, u⟩) zs.length; omega) (fun i hi => place_of (fun j hj hd => by have := chg2 ho hj hd; omega) hi) (fun i hi => difTo_up hi) (by omega)
        · obtain ⟨e1, h1, hR⟩ := one_bad he
          exact only_oe zs a c k xa xb xn u _ e1 h1 w hv hf (by omega) k3 k4 rfl hR
theorem open_op {H : Type} {enc : TypeId × Value → H} {w : World} {base : Nat} {spare : Nat → Bool} {held : Bool} {r : Reach} {b0 : Nat} {v : Value} {d : DataW H} {p : List MemPlace} (hv : Value.okWide Try.prog w r b0 35 v) (h : DataW.Trod enc Try.prog w base spare held 35 v d p) : ∃ k a b n u : Int, v = .agg #[.int .i64 k, .int .i64 a, .int .i64 b, .int .i64 n, .int .u64 u] := by
  obtain ⟨cs, rfl, hsz⟩ := okWide_struct Try.underlying35 hv
  obtain ⟨l⟩ := cs
  obtain ⟨fuel, hf⟩ := h
  obtain ⟨x, hx, _⟩ := five_op (by exact hsz.trans cellsOp) hf
  have hx' : l = [.int .i64 x.k, .int .i64 x.a, .int .i64 x.b, .int .i64 x.n, .int .u64 x.v] := by simpa [Value.cells] using hx
  subst hx'
  exact ⟨_, _, _, _, _, rfl⟩
theorem fine_words {H : Type} {enc : TypeId × Value → H} {w : World} {base : Nat} {held : Bool} {r : Reach} {b0 : Nat} {v : Value} {d : DataW H} {p : List MemPlace} (hv : Value.okWide Try.prog w r b0 22 v) (h : DataW.Trod enc Try.prog w base (fun _ => true) held 22 v d p) : Fine v := by
  obtain ⟨a, len, cap, rfl⟩ := okWide_slice Try.underlying22 hv
  obtain ⟨fuel, hf⟩ := h
  rcases open_slice Try.underlying22 hf with ⟨hcs, _⟩ | ⟨a', len', cap', m, n, D, Pl, hcs, _⟩
  · simp [Value.cells] at hcs
    obtain ⟨rfl, rfl, rfl⟩ := hcs
    exact .inl rfl
  · simp [Value.cells] at hcs
    obtain ⟨rfl, rfl, rfl⟩ := hcs
    exact .inr ⟨_, _, _, rfl⟩

set_option maxRecDepth 100000 in
theorem arenaOnly_lifted (os : Os) (started : os.Started) (H : Type) (enc : TypeId × Value → H) :
    ReturnsInHanded {} Try.checked os 6 .any (Rows.arenaOnlySpec.pre6 enc Try.prog Try.f6 Rows.arenaOnlyRow.domain false) (Rows.arenaOnlySpec.post enc Try.prog Try.f6 false true false false) := by
  refine returnsInHanded_of_change (C := Try.checked) own started (by kernel_rfl) Try.func6
    (ChangeSpec.witness6 (enc := enc) (C := Try.checked) false ⟨#[], #[.slice none 0 0, .agg #[.int .i64 0, .int .i64 0, .int .i64 0, .int .i64 0, .int .u64 0]], []⟩ 8 (by kernel_rfl) (by kernel_rfl) (by kernel_rfl) (by kernel_rfl)) ?_
  intro W base args ds gs before hval0 hW hcnd _
  have hval : ∀ (j : Nat) t v, Try.f6.params[j]? = some t → args[j]? = some v → Value.okWide Try.prog W .any base t v := hval0
  have hW' := hW
  obtain ⟨p, q, hA0, hV, rfl, hfz, hnd⟩ := hW
  have hA : DataW.TrodAll enc Try.prog W 0 (fun _ => true) true Try.f6.params.toList args.toList ds p := hA0
  obtain ⟨rfl, rfl⟩ := trodVars_none hV
  obtain ⟨v0, v1, d0, d1, p0, p1, rfl, rfl, t0, t1, k0, k1⟩ := law2 Try.params6 hA hval
  obtain ⟨zs, hz⟩ := open_words k0 t0
  have hfn := fine_words k0 t0
  obtain ⟨k, xa, xb, xn, u, rfl⟩ := open_op k1 t1
  refine (only_walk zs k xa xb xn u _ W hz hfn).mono fun e W' ⟨he, hb⟩ => ?_
  subst he
  exact ⟨_, rfl, law_post laidOut (by kernel_rfl) rfl (by kernel_rfl) Try.underlying4 hW' rfl rfl rfl hb⟩

theorem arenaOnly_over : Rows.arenaOnlyRow.holds Try.pinned (OpenSpec.ofChange Rows.arenaOnlySpec) :=
  OpenClaim.holds_of_wide 6 Try.f6 rfl rfl rfl rfl rfl rfl rfl ⟨rfl, rfl, rfl, rfl, rfl⟩ rfl rfl rfl rfl rfl (by kernel_rfl) Try.func6 (by kernel_rfl)
    (of_decide_eq_true (by kernel_rfl)) (by unfold Func.isWrapper; first | (rw [if_pos (by decide +kernel)]; kernel_rfl) | (rw [if_neg (by decide +kernel)]; exact ⟨rfl, rfl⟩))
    (fun os started H enc _ => arenaOnly_lifted os started H enc)

theorem arenaOnly_holds : Rows.ArenaOnlySaid := arenaOnly_over
#print axioms arenaOnly_holds
end Go.Proofs.Ytmjjbnjedafdaaa
