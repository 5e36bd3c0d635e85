/-
  Every run of AdmitSums answers true, whatever the config, the state and the list, and leaves what was there as it was: its walk, out of the contracts of the program and of the reference.
-/
import Derived.Test.YtohlaginanbclaaList2
import Derived.Deep.RegionHeld3
import Derived.IntWalk
import Derived.Outline
namespace Go.Proofs.Ytohlaginanbclaa
open Go.ChangeShapes Go.WideShapes Go.ChangeAt Go.RowKit

set_option maxHeartbeats 1000000 in
theorem sums_walk_far (C N S K Q o l : Int) (zs : List Int) (a : Option Addr) (cap : Nat) (w : World) (h : 60 < zs.length) : Calls Try.prog 7 #[.agg #[.int .i64 C, .int .i64 N, .int .i64 S, .int .i64 K, .int .i64 Q], .agg #[.int .i64 o, .int .i64 l], .slice a zs.length cap] w (Ret (.bool true) w) := by
  go_enter Try.func7, Try.ntmps7
  go_wp2_with fail
  refine (awake_any _).mono ?_
  rintro e w1 ⟨rfl, hb1⟩
  have G1 := Lib.hid (args_call hb1 args_start)
  obtain ⟨q0, q1, q2, q3, q4, q5, q6, qz, qb⟩ := G1.out
  clear hb1
  go_wp2
  go_ret
  exact ⟨rfl, qb⟩

set_option maxHeartbeats 1000000 in
theorem sums_walk_bad (C N S K Q o l : Int) (zs : List Int) (a : Option Addr) (cap : Nat) (w : World) (hv : IntsAt w (.slice a zs.length cap) zs) (hl : ¬ 60 < zs.length) (h : (cfgB C N S K Q && stB C N S o l) = false) : Calls Try.prog 7 #[.agg #[.int .i64 C, .int .i64 N, .int .i64 S, .int .i64 K, .int .i64 Q], .agg #[.int .i64 o, .int .i64 l], .slice a zs.length cap] w (Ret (.bool true) w) := by
  have HV := Lib.hid hv
  have H7 := Lib.hid (chkE_no h)
  have HR : Hid (runX C N S K Q o l zs = (0, 7)) := by unfold runX; rw [h]; rfl
  clear h hv
  go_enter Try.func7, Try.ntmps7
  go_wp2_with fail
  refine (run_at _ (ints_below (args_below args_start) rfl HV.out) HR.out).mono ?_
  rintro e w1 ⟨rfl, hb1⟩
  have G1 := Lib.hid (args_call hb1 args_start)
  obtain ⟨q0, q1, q2, q3, q4, q5, q6, qz, qb⟩ := G1.out
  clear hb1
  go_wp2_with fail
  refine (check_at _ H7.out).mono ?_
  rintro e w2 ⟨rfl, hb2⟩
  have G2 := Lib.hid (args_call hb2 G1.out)
  obtain ⟨p0, p1, p2, p3, p4, p5, p6, pz, pb⟩ := G2.out
  clear hb2 q0 q1 q2 q3 q4 q5 q6 qz qb
  go_wp2_with fail
  refine (awake_any _).mono ?_
  rintro e w3 ⟨rfl, hb3⟩
  have G3 := Lib.hid (args_call hb3 G2.out)
  obtain ⟨q0, q1, q2, q3, q4, q5, q6, qz, qb⟩ := G3.out
  clear hb3 p0 p1 p2 p3 p4 p5 p6 pz pb
  go_wp2
  go_ret
  exact ⟨rfl, qb⟩

theorem args_drewN {w0 W : World} {C N S K Q o l : Int} (n : Nat) (h : Args w0 C N S K Q o l W) : Args w0 C N S K Q o l (W.drewN n) := by
  obtain ⟨h0, h1, h2, h3, h4, h5, h6, hz, hl⟩ := h
  exact ⟨h0, h1, h2, h3, h4, h5, h6, hz, below_drewN hl n⟩

set_option maxRecDepth 100000 in
set_option maxHeartbeats 8000000 in
theorem sums_main_0 (C N S K Q o l : Int) (zs : List Int) (d zb off cap : Nat) (w : World) (hz : zb < w.heap.size) (hcell : ∀ i : Nat, i < zs.length → w.cell? ⟨zb, off + i, none⟩ = some (.int .i64 (zs.getD i 0))) (hcap : zs.length ≤ cap) (hp : 0 < zs.length) (hlen : zs.length ≤ 60) (hc : cfgB C N S K Q = true) (hs : stB C N S o l = true) (hr : runX C N S K Q o l zs = ((d : Int), 0)) (R : RunSum C N S K Q o l zs d 0) : Calls Try.prog 7 #[.agg #[.int .i64 C, .int .i64 N, .int .i64 S, .int .i64 K, .int .i64 Q], .agg #[.int .i64 o, .int .i64 l], .slice (some ⟨zb, off, none⟩) zs.length cap] w (Ret (.bool true) w) := by
  obtain ⟨⟨c1, c2⟩, ⟨n1, n2⟩, ⟨s1, s2⟩, ⟨_, _⟩, _, _⟩ := cfgB_true.1 hc
  obtain ⟨b1, b2⟩ := prod_bounds c1 c2 n1 n2
  obtain ⟨⟨o1, o2⟩, l1, l2, l3⟩ := stB_true.1 hs
  have H0 := Lib.hid (chkE_ok hc hs)
  have HC := Lib.hid hc
  have ho : (cfgB C N S K Q && occB C N S o) = true := by rw [hc, occ_of_st hs]; rfl
  have HO := Lib.hid (occE_ok ho)
  have HK : Hid (slackN C N S K Q o = slk C N o) := by unfold slackN; rw [ho]; rfl
  have hsl := slk_nonneg C N o
  clear hc hs ho
  have HV : Hid (IntsAt w (.slice (some ⟨zb, off, none⟩) zs.length cap) zs) := .inr ⟨zb, off, cap, rfl, fun _ => hz, hcell⟩
  have HR := Lib.hid hr
  have HL := Lib.hid hcell
  have HZ := Lib.hid hz
  have hll : ¬ 60 < zs.length := by omega
  have hd := R.le
  have hd' : ¬ zs.length < d := by omega
  have t1 : ((d : Int) == (zs.length : Int)) = true := by have := R.iff.1 rfl; simp; omega
  have RR := Lib.hid R
  clear hr R hcell hz
  go_enter Try.func7, Try.ntmps7
  go_wp2_with fail
  refine (run_at _ (ints_below (args_below args_start) rfl HV.out) HR.out).mono ?_
  rintro e w1 ⟨rfl, hb1⟩
  have G1 := Lib.hid (args_call hb1 args_start)
  obtain ⟨q0, q1, q2, q3, q4, q5, q6, qz, qb⟩ := G1.out
  clear hb1
  go_wp2_with fail
  refine (check_at _ H0.out).mono ?_
  rintro e w2 ⟨rfl, hb2⟩
  have G2 := Lib.hid (args_call hb2 G1.out)
  obtain ⟨p0, p1, p2, p3, p4, p5, p6, pz, pb⟩ := G2.out
  clear hb2 q0 q1 q2 q3 q4 q5 q6 qz qb
  go_wp2_with fail
  refine (slack_at _ HK.out HO.out).mono ?_
  rintro e w3 ⟨rfl, hb3⟩
  have G3 := Lib.hid (args_call hb3 G2.out)
  obtain ⟨q0, q1, q2, q3, q4, q5, q6, qz, qb⟩ := G3.out
  clear hb3 p0 p1 p2 p3 p4 p5 p6 pz pb
  go_wp2_with fail
  have gz := Nat.lt_of_lt_of_le HZ.out qb.size
  have GL : Hid (∀ i : Nat, i < zs.length → w3.cell? ⟨zb, off + i, none⟩ = some (.int .i64 (zs.getD i 0))) := fun i hi => (qb.cell (p := ⟨zb, off + i, none⟩) HZ.out).trans (HL.out i hi)
  clear G1 G2
  go_loop [11, 12] (fun s i => ∃ k : Nat, k ≤ d ∧ i = .int .i64 k ∧ s = .int .i64 (smTo zs k)) (fun _ i => d - (intOf i).toNat)
  case atStart => exact ⟨0, Nat.zero_le _, rfl, by rw [smTo_zero]⟩
  case round =>
    obtain ⟨k, hk, rfl, rfl⟩ := hrel
    obtain ⟨m1, m2⟩ := RR.out.left k hk
    by_cases hkd : k < d
    · have gc := GL.out k (by omega)
      have v1 := RR.out.one k hkd
      have hsu := smTo_succ zs k (by omega)
      obtain ⟨m3, m4⟩ := RR.out.left (k + 1) (by omega)
      rw [hsu] at m4
      have HSU := Lib.hid hsu
      clear hsu m3
      generalize zs.getD k 0 = z at *
      go_wp2
      go_round
      case rel => exact ⟨k + 1, by omega, by go_num, by rw [HSU.out]⟩
      case measure => simp [intOf]; omega
    · have HKD : Hid (k = d) := (by omega : k = d)
      have f2 : smTo zs k ≤ slk C N o := by rw [HKD.out]; exact RR.out.slack
      have u1 : ¬ l < smTo zs k := by omega
      have u2 : ¬ slk C N o < smTo zs k := by omega
      go_wp2_with fail
      go_quiet (fail)
      obtain ⟨h, hh⟩ : ∃ h : Nat, h = d / 2 := ⟨_, rfl⟩
      have e0 : (d : Int) / 2 = (h : Int) := by omega
      have hh1 : h ≤ d := by omega
      have hh2 : 2 * h ≤ d := by omega
      have HHH := Lib.hid hh
      clear hh f2 u1 u2 m1 m2
      go_wp2_with fail
      clear e0
      have hS := Lib.hid (args_drewN nq G3.out)
      have HT3 := G3
      clear G3
      go_loop [14, 15] (fun s i => ∃ j : Nat, j ≤ h ∧ i = .int .i64 j ∧ s = .int .i64 (smTo zs j)) (fun _ i => h - (intOf i).toNat)
      case atStart => exact ⟨0, Nat.zero_le _, rfl, by rw [smTo_zero]⟩
      case round =>
        obtain ⟨j, hj, rfl, rfl⟩ := hrel
        obtain ⟨m1, m2⟩ := RR.out.left j (by omega)
        by_cases hjd : j < h
        · have gc := GL.out j (by omega)
          have v1 := RR.out.one j (by omega)
          have hsu := smTo_succ zs j (by omega)
          obtain ⟨m3, m4⟩ := RR.out.left (j + 1) (by omega)
          rw [hsu] at m4
          have HSU := Lib.hid hsu
          clear hsu m3
          generalize zs.getD j 0 = z at *
          go_wp2
          go_round
          case rel => exact ⟨j + 1, by omega, by go_num, by rw [HSU.out]⟩
          case measure => simp [intOf]; omega
        · have HJ : Hid (j = h) := (by omega : j = h)
          have HP := Lib.hid (run_part HC.out hlen RR.out hh1 HJ.out)
          have e1 : IntKind.i64.wrap (o + smTo zs j) = o + smTo zs j := IntWalk.i64_in _ (by omega)
          have e2 : IntKind.i64.wrap (l - smTo zs j) = l - smTo zs j := IntWalk.i64_in _ (by omega)
          have i1 : (h : Int) ≤ (zs.length : Int) := by omega
          have i2 : (zs.length : Int) ≤ (cap : Int) := by omega
          have i3 : h ≤ zs.length := by omega
          have i4 : ¬ cap = h := by omega
          have HT := hS.out
          go_wp2_with fail
          go_region_held3 (fun w' => w'.cell? ⟨w.heap.size, 0, none⟩ = some (.int .i64 C) ∧ w'.cell? ⟨w.heap.size, 1, none⟩ = some (.int .i64 N) ∧ w'.cell? ⟨w.heap.size, 2, none⟩ = some (.int .i64 S) ∧ w'.cell? ⟨w.heap.size, 3, none⟩ = some (.int .i64 K) ∧ w'.cell? ⟨w.heap.size, 4, none⟩ = some (.int .i64 Q) ∧ w'.cell? ⟨w.heap.size + 1, 0, none⟩ = some (.int .i64 o) ∧ w'.cell? ⟨w.heap.size + 1, 1, none⟩ = some (.int .i64 l) ∧ w.heap.size + 1 < w'.heap.size ∧ Below w.heap.size w w') (first | exact args_drew HT | exact args_drewN _ HT3.out | exact args_call (by with_reducible assumption) (args_drewN _ HT3.out) | exact args_call (by with_reducible assumption) (by with_reducible assumption))
            (first | (go_at_call 12; refine (run_at _ (ints_drop (zs := zs) (h := h) (by exact gz) (by exact GL.out) (by first | rfl | omega)) HP.out).mono ?_; rintro e w4 ⟨rfl, hb4⟩))
          have R4 : Args w C N S K Q o l w4 := by with_reducible assumption
          go_wp2_with fail
          refine (awake_any _).mono ?_
          rintro e w5 ⟨rfl, hb5⟩
          go_wp2
          go_ret
          exact ⟨rfl, below_call hb5 (args_below R4) (Nat.le_refl _)⟩

set_option maxRecDepth 100000 in
set_option maxHeartbeats 8000000 in
theorem sums_main_5a (C N S K Q o l : Int) (zs : List Int) (d zb off cap : Nat) (w : World) (hz : zb < w.heap.size) (hcell : ∀ i : Nat, i < zs.length → w.cell? ⟨zb, off + i, none⟩ = some (.int .i64 (zs.getD i 0))) (hcap : zs.length ≤ cap) (hp : 0 < zs.length) (hlen : zs.length ≤ 60) (hc : cfgB C N S K Q = true) (hs : stB C N S o l = true) (hr : runX C N S K Q o l zs = ((d : Int), 5)) (R : RunSum C N S K Q o l zs d 5) (hy : smTo zs d + zs.getD d 0 ≤ l) : Calls Try.prog 7 #[.agg #[.int .i64 C, .int .i64 N, .int .i64 S, .int .i64 K, .int .i64 Q], .agg #[.int .i64 o, .int .i64 l], .slice (some ⟨zb, off, none⟩) zs.length cap] w (Ret (.bool true) w) := by
  obtain ⟨⟨c1, c2⟩, ⟨n1, n2⟩, ⟨s1, s2⟩, ⟨_, _⟩, _, _⟩ := cfgB_true.1 hc
  obtain ⟨b1, b2⟩ := prod_bounds c1 c2 n1 n2
  obtain ⟨⟨o1, o2⟩, l1, l2, l3⟩ := stB_true.1 hs
  have H0 := Lib.hid (chkE_ok hc hs)
  have HC := Lib.hid hc
  have ho : (cfgB C N S K Q && occB C N S o) = true := by rw [hc, occ_of_st hs]; rfl
  have HO := Lib.hid (occE_ok ho)
  have HK : Hid (slackN C N S K Q o = slk C N o) := by unfold slackN; rw [ho]; rfl
  have hsl := slk_nonneg C N o
  clear hc hs ho
  have HV : Hid (IntsAt w (.slice (some ⟨zb, off, none⟩) zs.length cap) zs) := .inr ⟨zb, off, cap, rfl, fun _ => hz, hcell⟩
  have HR := Lib.hid hr
  have HL := Lib.hid hcell
  have HZ := Lib.hid hz
  have hll : ¬ 60 < zs.length := by omega
  have hd := R.le
  have hd' : ¬ zs.length < d := by omega
  have t1 : ((d : Int) == (zs.length : Int)) = false := by
    have h9 : ¬ d = zs.length := fun h => absurd (R.iff.2 h) (by decide)
    simp; omega
  obtain ⟨y1, y2, y3, Y4⟩ := R.full rfl
  generalize hyy : zs.getD d 0 = y at *
  have HYY := Lib.hid hyy
  clear hyy
  have HY4 := Lib.hid Y4
  have HY := Lib.hid hy
  clear Y4 hy
  have RR := Lib.hid R
  clear hr R hcell hz
  go_enter Try.func7, Try.ntmps7
  go_wp2_with fail
  refine (run_at _ (ints_below (args_below args_start) rfl HV.out) HR.out).mono ?_
  rintro e w1 ⟨rfl, hb1⟩
  have G1 := Lib.hid (args_call hb1 args_start)
  obtain ⟨q0, q1, q2, q3, q4, q5, q6, qz, qb⟩ := G1.out
  clear hb1
  go_wp2_with fail
  refine (check_at _ H0.out).mono ?_
  rintro e w2 ⟨rfl, hb2⟩
  have G2 := Lib.hid (args_call hb2 G1.out)
  obtain ⟨p0, p1, p2, p3, p4, p5, p6, pz, pb⟩ := G2.out
  clear hb2 q0 q1 q2 q3 q4 q5 q6 qz qb
  go_wp2_with fail
  refine (slack_at _ HK.out HO.out).mono ?_
  rintro e w3 ⟨rfl, hb3⟩
  have G3 := Lib.hid (args_call hb3 G2.out)
  obtain ⟨q0, q1, q2, q3, q4, q5, q6, qz, qb⟩ := G3.out
  clear hb3 p0 p1 p2 p3 p4 p5 p6 pz pb
  go_wp2_with fail
  have gz := Nat.lt_of_lt_of_le HZ.out qb.size
  have GL : Hid (∀ i : Nat, i < zs.length → w3.cell? ⟨zb, off + i, none⟩ = some (.int .i64 (zs.getD i 0))) := fun i hi => (qb.cell (p := ⟨zb, off + i, none⟩) HZ.out).trans (HL.out i hi)
  clear G1 G2
  go_loop [11, 12] (fun s i => ∃ k : Nat, k ≤ d ∧ i = .int .i64 k ∧ s = .int .i64 (smTo zs k)) (fun _ i => d - (intOf i).toNat)
  case atStart => exact ⟨0, Nat.zero_le _, rfl, by rw [smTo_zero]⟩
  case round =>
    obtain ⟨k, hk, rfl, rfl⟩ := hrel
    obtain ⟨m1, m2⟩ := RR.out.left k hk
    by_cases hkd : k < d
    · have gc := GL.out k (by omega)
      have v1 := RR.out.one k hkd
      have hsu := smTo_succ zs k (by omega)
      obtain ⟨m3, m4⟩ := RR.out.left (k + 1) (by omega)
      rw [hsu] at m4
      have HSU := Lib.hid hsu
      clear hsu m3
      generalize zs.getD k 0 = z at *
      go_wp2
      go_round
      case rel => exact ⟨k + 1, by omega, by go_num, by rw [HSU.out]⟩
      case measure => simp [intOf]; omega
    · have HKD : Hid (k = d) := (by omega : k = d)
      have f2 : smTo zs k ≤ slk C N o := by rw [HKD.out]; exact RR.out.slack
      have u1 : ¬ l < smTo zs k := by omega
      have u2 : ¬ slk C N o < smTo zs k := by omega
      go_wp2_with fail
      have gy : w3.cell? ⟨zb, off + d, none⟩ = some (.int .i64 y) := by have := GL.out d y1; rw [HYY.out] at this; exact this
      have i1 : (0 : Int) ≤ (d : Int) := by omega
      have i2 : (d : Int) < (zs.length : Int) := by omega
      have e1 : IntKind.i64.wrap (smTo zs k + y) = smTo zs k + y := IntWalk.i64_in _ (by omega)
      have e2 : decide (smTo zs k + y ≤ l) = true := by have := HY.out; rw [← HKD.out] at this; simpa using this
      have e3 : decide (smTo zs k + y ≤ slk C N o) = false := by have := HY4.out; have h8 := HY.out; rw [← HKD.out] at this h8; simp; omega
      go_quiet (fail)
      clear e1 e2 e3 gy i1 i2
      obtain ⟨h, hh⟩ : ∃ h : Nat, h = d / 2 := ⟨_, rfl⟩
      have e0 : (d : Int) / 2 = (h : Int) := by omega
      have hh1 : h ≤ d := by omega
      have hh2 : 2 * h ≤ d := by omega
      have HHH := Lib.hid hh
      clear hh f2 u1 u2 m1 m2
      go_wp2_with fail
      clear e0
      have hS := Lib.hid (args_drewN nq G3.out)
      have HT3 := G3
      clear G3
      go_loop [14, 15] (fun s i => ∃ j : Nat, j ≤ h ∧ i = .int .i64 j ∧ s = .int .i64 (smTo zs j)) (fun _ i => h - (intOf i).toNat)
      case atStart => exact ⟨0, Nat.zero_le _, rfl, by rw [smTo_zero]⟩
      case round =>
        obtain ⟨j, hj, rfl, rfl⟩ := hrel
        obtain ⟨m1, m2⟩ := RR.out.left j (by omega)
        by_cases hjd : j < h
        · have gc := GL.out j (by omega)
          have v1 := RR.out.one j (by omega)
          have hsu := smTo_succ zs j (by omega)
          obtain ⟨m3, m4⟩ := RR.out.left (j + 1) (by omega)
          rw [hsu] at m4
          have HSU := Lib.hid hsu
          clear hsu m3
          generalize zs.getD j 0 = z at *
          go_wp2
          go_round
          case rel => exact ⟨j + 1, by omega, by go_num, by rw [HSU.out]⟩
          case measure => simp [intOf]; omega
        · have HJ : Hid (j = h) := (by omega : j = h)
          have HP := Lib.hid (run_part HC.out hlen RR.out hh1 HJ.out)
          have e1 : IntKind.i64.wrap (o + smTo zs j) = o + smTo zs j := IntWalk.i64_in _ (by omega)
          have e2 : IntKind.i64.wrap (l - smTo zs j) = l - smTo zs j := IntWalk.i64_in _ (by omega)
          have i1 : (h : Int) ≤ (zs.length : Int) := by omega
          have i2 : (zs.length : Int) ≤ (cap : Int) := by omega
          have i3 : h ≤ zs.length := by omega
          have i4 : ¬ cap = h := by omega
          have HT := hS.out
          go_wp2_with fail
          go_region_held3 (fun w' => w'.cell? ⟨w.heap.size, 0, none⟩ = some (.int .i64 C) ∧ w'.cell? ⟨w.heap.size, 1, none⟩ = some (.int .i64 N) ∧ w'.cell? ⟨w.heap.size, 2, none⟩ = some (.int .i64 S) ∧ w'.cell? ⟨w.heap.size, 3, none⟩ = some (.int .i64 K) ∧ w'.cell? ⟨w.heap.size, 4, none⟩ = some (.int .i64 Q) ∧ w'.cell? ⟨w.heap.size + 1, 0, none⟩ = some (.int .i64 o) ∧ w'.cell? ⟨w.heap.size + 1, 1, none⟩ = some (.int .i64 l) ∧ w.heap.size + 1 < w'.heap.size ∧ Below w.heap.size w w') (first | exact args_drew HT | exact args_drewN _ HT3.out | exact args_call (by with_reducible assumption) (args_drewN _ HT3.out) | exact args_call (by with_reducible assumption) (by with_reducible assumption))
            (first | (go_at_call 12; refine (run_at _ (ints_drop (zs := zs) (h := h) (by exact gz) (by exact GL.out) (by first | rfl | omega)) HP.out).mono ?_; rintro e w4 ⟨rfl, hb4⟩))
          have R4 : Args w C N S K Q o l w4 := by with_reducible assumption
          go_wp2_with fail
          refine (awake_any _).mono ?_
          rintro e w5 ⟨rfl, hb5⟩
          go_wp2
          go_ret
          exact ⟨rfl, below_call hb5 (args_below R4) (Nat.le_refl _)⟩

set_option maxRecDepth 100000 in
set_option maxHeartbeats 8000000 in
theorem sums_main_5b (C N S K Q o l : Int) (zs : List Int) (d zb off cap : Nat) (w : World) (hz : zb < w.heap.size) (hcell : ∀ i : Nat, i < zs.length → w.cell? ⟨zb, off + i, none⟩ = some (.int .i64 (zs.getD i 0))) (hcap : zs.length ≤ cap) (hp : 0 < zs.length) (hlen : zs.length ≤ 60) (hc : cfgB C N S K Q = true) (hs : stB C N S o l = true) (hr : runX C N S K Q o l zs = ((d : Int), 5)) (R : RunSum C N S K Q o l zs d 5) (hy : ¬ smTo zs d + zs.getD d 0 ≤ l) : Calls Try.prog 7 #[.agg #[.int .i64 C, .int .i64 N, .int .i64 S, .int .i64 K, .int .i64 Q], .agg #[.int .i64 o, .int .i64 l], .slice (some ⟨zb, off, none⟩) zs.length cap] w (Ret (.bool true) w) := by
  obtain ⟨⟨c1, c2⟩, ⟨n1, n2⟩, ⟨s1, s2⟩, ⟨_, _⟩, _, _⟩ := cfgB_true.1 hc
  obtain ⟨b1, b2⟩ := prod_bounds c1 c2 n1 n2
  obtain ⟨⟨o1, o2⟩, l1, l2, l3⟩ := stB_true.1 hs
  have H0 := Lib.hid (chkE_ok hc hs)
  have HC := Lib.hid hc
  have ho : (cfgB C N S K Q && occB C N S o) = true := by rw [hc, occ_of_st hs]; rfl
  have HO := Lib.hid (occE_ok ho)
  have HK : Hid (slackN C N S K Q o = slk C N o) := by unfold slackN; rw [ho]; rfl
  have hsl := slk_nonneg C N o
  clear hc hs ho
  have HV : Hid (IntsAt w (.slice (some ⟨zb, off, none⟩) zs.length cap) zs) := .inr ⟨zb, off, cap, rfl, fun _ => hz, hcell⟩
  have HR := Lib.hid hr
  have HL := Lib.hid hcell
  have HZ := Lib.hid hz
  have hll : ¬ 60 < zs.length := by omega
  have hd := R.le
  have hd' : ¬ zs.length < d := by omega
  have t1 : ((d : Int) == (zs.length : Int)) = false := by
    have h9 : ¬ d = zs.length := fun h => absurd (R.iff.2 h) (by decide)
    simp; omega
  obtain ⟨y1, y2, y3, Y4⟩ := R.full rfl
  generalize hyy : zs.getD d 0 = y at *
  have HYY := Lib.hid hyy
  clear hyy
  have HY4 := Lib.hid Y4
  have HY := Lib.hid hy
  clear Y4 hy
  have RR := Lib.hid R
  clear hr R hcell hz
  go_enter Try.func7, Try.ntmps7
  go_wp2_with fail
  refine (run_at _ (ints_below (args_below args_start) rfl HV.out) HR.out).mono ?_
  rintro e w1 ⟨rfl, hb1⟩
  have G1 := Lib.hid (args_call hb1 args_start)
  obtain ⟨q0, q1, q2, q3, q4, q5, q6, qz, qb⟩ := G1.out
  clear hb1
  go_wp2_with fail
  refine (check_at _ H0.out).mono ?_
  rintro e w2 ⟨rfl, hb2⟩
  have G2 := Lib.hid (args_call hb2 G1.out)
  obtain ⟨p0, p1, p2, p3, p4, p5, p6, pz, pb⟩ := G2.out
  clear hb2 q0 q1 q2 q3 q4 q5 q6 qz qb
  go_wp2_with fail
  refine (slack_at _ HK.out HO.out).mono ?_
  rintro e w3 ⟨rfl, hb3⟩
  have G3 := Lib.hid (args_call hb3 G2.out)
  obtain ⟨q0, q1, q2, q3, q4, q5, q6, qz, qb⟩ := G3.out
  clear hb3 p0 p1 p2 p3 p4 p5 p6 pz pb
  go_wp2_with fail
  have gz := Nat.lt_of_lt_of_le HZ.out qb.size
  have GL : Hid (∀ i : Nat, i < zs.length → w3.cell? ⟨zb, off + i, none⟩ = some (.int .i64 (zs.getD i 0))) := fun i hi => (qb.cell (p := ⟨zb, off + i, none⟩) HZ.out).trans (HL.out i hi)
  clear G1 G2
  go_loop [11, 12] (fun s i => ∃ k : Nat, k ≤ d ∧ i = .int .i64 k ∧ s = .int .i64 (smTo zs k)) (fun _ i => d - (intOf i).toNat)
  case atStart => exact ⟨0, Nat.zero_le _, rfl, by rw [smTo_zero]⟩
  case round =>
    obtain ⟨k, hk, rfl, rfl⟩ := hrel
    obtain ⟨m1, m2⟩ := RR.out.left k hk
    by_cases hkd : k < d
    · have gc := GL.out k (by omega)
      have v1 := RR.out.one k hkd
      have hsu := smTo_succ zs k (by omega)
      obtain ⟨m3, m4⟩ := RR.out.left (k + 1) (by omega)
      rw [hsu] at m4
      have HSU := Lib.hid hsu
      clear hsu m3
      generalize zs.getD k 0 = z at *
      go_wp2
      go_round
      case rel => exact ⟨k + 1, by omega, by go_num, by rw [HSU.out]⟩
      case measure => simp [intOf]; omega
    · have HKD : Hid (k = d) := (by omega : k = d)
      have f2 : smTo zs k ≤ slk C N o := by rw [HKD.out]; exact RR.out.slack
      have u1 : ¬ l < smTo zs k := by omega
      have u2 : ¬ slk C N o < smTo zs k := by omega
      go_wp2_with fail
      have gy : w3.cell? ⟨zb, off + d, none⟩ = some (.int .i64 y) := by have := GL.out d y1; rw [HYY.out] at this; exact this
      have i1 : (0 : Int) ≤ (d : Int) := by omega
      have i2 : (d : Int) < (zs.length : Int) := by omega
      have e1 : IntKind.i64.wrap (smTo zs k + y) = smTo zs k + y := IntWalk.i64_in _ (by omega)
      have e2 : decide (smTo zs k + y ≤ l) = false := by have := HY.out; rw [← HKD.out] at this; simpa using this
      go_quiet (fail)
      clear e1 e2 gy i1 i2
      obtain ⟨h, hh⟩ : ∃ h : Nat, h = d / 2 := ⟨_, rfl⟩
      have e0 : (d : Int) / 2 = (h : Int) := by omega
      have hh1 : h ≤ d := by omega
      have hh2 : 2 * h ≤ d := by omega
      have HHH := Lib.hid hh
      clear hh f2 u1 u2 m1 m2
      go_wp2_with fail
      clear e0
      have hS := Lib.hid (args_drewN nq G3.out)
      have HT3 := G3
      clear G3
      go_loop [14, 15] (fun s i => ∃ j : Nat, j ≤ h ∧ i = .int .i64 j ∧ s = .int .i64 (smTo zs j)) (fun _ i => h - (intOf i).toNat)
      case atStart => exact ⟨0, Nat.zero_le _, rfl, by rw [smTo_zero]⟩
      case round =>
        obtain ⟨j, hj, rfl, rfl⟩ := hrel
        obtain ⟨m1, m2⟩ := RR.out.left j (by omega)
        by_cases hjd : j < h
        · have gc := GL.out j (by omega)
          have v1 := RR.out.one j (by omega)
          have hsu := smTo_succ zs j (by omega)
          obtain ⟨m3, m4⟩ := RR.out.left (j + 1) (by omega)
          rw [hsu] at m4
          have HSU := Lib.hid hsu
          clear hsu m3
          generalize zs.getD j 0 = z at *
          go_wp2
          go_round
          case rel => exact ⟨j + 1, by omega, by go_num, by rw [HSU.out]⟩
          case measure => simp [intOf]; omega
        · have HJ : Hid (j = h) := (by omega : j = h)
          have HP := Lib.hid (run_part HC.out hlen RR.out hh1 HJ.out)
          have e1 : IntKind.i64.wrap (o + smTo zs j) = o + smTo zs j := IntWalk.i64_in _ (by omega)
          have e2 : IntKind.i64.wrap (l - smTo zs j) = l - smTo zs j := IntWalk.i64_in _ (by omega)
          have i1 : (h : Int) ≤ (zs.length : Int) := by omega
          have i2 : (zs.length : Int) ≤ (cap : Int) := by omega
          have i3 : h ≤ zs.length := by omega
          have i4 : ¬ cap = h := by omega
          have HT := hS.out
          go_wp2_with fail
          go_region_held3 (fun w' => w'.cell? ⟨w.heap.size, 0, none⟩ = some (.int .i64 C) ∧ w'.cell? ⟨w.heap.size, 1, none⟩ = some (.int .i64 N) ∧ w'.cell? ⟨w.heap.size, 2, none⟩ = some (.int .i64 S) ∧ w'.cell? ⟨w.heap.size, 3, none⟩ = some (.int .i64 K) ∧ w'.cell? ⟨w.heap.size, 4, none⟩ = some (.int .i64 Q) ∧ w'.cell? ⟨w.heap.size + 1, 0, none⟩ = some (.int .i64 o) ∧ w'.cell? ⟨w.heap.size + 1, 1, none⟩ = some (.int .i64 l) ∧ w.heap.size + 1 < w'.heap.size ∧ Below w.heap.size w w') (first | exact args_drew HT | exact args_drewN _ HT3.out | exact args_call (by with_reducible assumption) (args_drewN _ HT3.out) | exact args_call (by with_reducible assumption) (by with_reducible assumption))
            (first | (go_at_call 12; refine (run_at _ (ints_drop (zs := zs) (h := h) (by exact gz) (by exact GL.out) (by first | rfl | omega)) HP.out).mono ?_; rintro e w4 ⟨rfl, hb4⟩))
          have R4 : Args w C N S K Q o l w4 := by with_reducible assumption
          go_wp2_with fail
          refine (awake_any _).mono ?_
          rintro e w5 ⟨rfl, hb5⟩
          go_wp2
          go_ret
          exact ⟨rfl, below_call hb5 (args_below R4) (Nat.le_refl _)⟩

set_option maxRecDepth 100000 in
set_option maxHeartbeats 8000000 in
theorem sums_main_7 (C N S K Q o l : Int) (zs : List Int) (d zb off cap : Nat) (w : World) (hz : zb < w.heap.size) (hcell : ∀ i : Nat, i < zs.length → w.cell? ⟨zb, off + i, none⟩ = some (.int .i64 (zs.getD i 0))) (hcap : zs.length ≤ cap) (hp : 0 < zs.length) (hlen : zs.length ≤ 60) (hc : cfgB C N S K Q = true) (hs : stB C N S o l = true) (hr : runX C N S K Q o l zs = ((d : Int), 7)) (R : RunSum C N S K Q o l zs d 7) : Calls Try.prog 7 #[.agg #[.int .i64 C, .int .i64 N, .int .i64 S, .int .i64 K, .int .i64 Q], .agg #[.int .i64 o, .int .i64 l], .slice (some ⟨zb, off, none⟩) zs.length cap] w (Ret (.bool true) w) := by
  obtain ⟨⟨c1, c2⟩, ⟨n1, n2⟩, ⟨s1, s2⟩, ⟨_, _⟩, _, _⟩ := cfgB_true.1 hc
  obtain ⟨b1, b2⟩ := prod_bounds c1 c2 n1 n2
  obtain ⟨⟨o1, o2⟩, l1, l2, l3⟩ := stB_true.1 hs
  have H0 := Lib.hid (chkE_ok hc hs)
  have HC := Lib.hid hc
  have ho : (cfgB C N S K Q && occB C N S o) = true := by rw [hc, occ_of_st hs]; rfl
  have HO := Lib.hid (occE_ok ho)
  have HK : Hid (slackN C N S K Q o = slk C N o) := by unfold slackN; rw [ho]; rfl
  have hsl := slk_nonneg C N o
  clear hc hs ho
  have HV : Hid (IntsAt w (.slice (some ⟨zb, off, none⟩) zs.length cap) zs) := .inr ⟨zb, off, cap, rfl, fun _ => hz, hcell⟩
  have HR := Lib.hid hr
  have HL := Lib.hid hcell
  have HZ := Lib.hid hz
  have hll : ¬ 60 < zs.length := by omega
  have hd := R.le
  have hd' : ¬ zs.length < d := by omega
  have t1 : ((d : Int) == (zs.length : Int)) = false := by
    have h9 : ¬ d = zs.length := fun h => absurd (R.iff.2 h) (by decide)
    simp; omega
  have RR := Lib.hid R
  clear hr R hcell hz
  go_enter Try.func7, Try.ntmps7
  go_wp2_with fail
  refine (run_at _ (ints_below (args_below args_start) rfl HV.out) HR.out).mono ?_
  rintro e w1 ⟨rfl, hb1⟩
  have G1 := Lib.hid (args_call hb1 args_start)
  obtain ⟨q0, q1, q2, q3, q4, q5, q6, qz, qb⟩ := G1.out
  clear hb1
  go_wp2_with fail
  refine (check_at _ H0.out).mono ?_
  rintro e w2 ⟨rfl, hb2⟩
  have G2 := Lib.hid (args_call hb2 G1.out)
  obtain ⟨p0, p1, p2, p3, p4, p5, p6, pz, pb⟩ := G2.out
  clear hb2 q0 q1 q2 q3 q4 q5 q6 qz qb
  go_wp2_with fail
  refine (slack_at _ HK.out HO.out).mono ?_
  rintro e w3 ⟨rfl, hb3⟩
  have G3 := Lib.hid (args_call hb3 G2.out)
  obtain ⟨q0, q1, q2, q3, q4, q5, q6, qz, qb⟩ := G3.out
  clear hb3 p0 p1 p2 p3 p4 p5 p6 pz pb
  go_wp2_with fail
  have gz := Nat.lt_of_lt_of_le HZ.out qb.size
  have GL : Hid (∀ i : Nat, i < zs.length → w3.cell? ⟨zb, off + i, none⟩ = some (.int .i64 (zs.getD i 0))) := fun i hi => (qb.cell (p := ⟨zb, off + i, none⟩) HZ.out).trans (HL.out i hi)
  clear G1 G2
  go_loop [11, 12] (fun s i => ∃ k : Nat, k ≤ d ∧ i = .int .i64 k ∧ s = .int .i64 (smTo zs k)) (fun _ i => d - (intOf i).toNat)
  case atStart => exact ⟨0, Nat.zero_le _, rfl, by rw [smTo_zero]⟩
  case round =>
    obtain ⟨k, hk, rfl, rfl⟩ := hrel
    obtain ⟨m1, m2⟩ := RR.out.left k hk
    by_cases hkd : k < d
    · have gc := GL.out k (by omega)
      have v1 := RR.out.one k hkd
      have hsu := smTo_succ zs k (by omega)
      obtain ⟨m3, m4⟩ := RR.out.left (k + 1) (by omega)
      rw [hsu] at m4
      have HSU := Lib.hid hsu
      clear hsu m3
      generalize zs.getD k 0 = z at *
      go_wp2
      go_round
      case rel => exact ⟨k + 1, by omega, by go_num, by rw [HSU.out]⟩
      case measure => simp [intOf]; omega
    · have HKD : Hid (k = d) := (by omega : k = d)
      have f2 : smTo zs k ≤ slk C N o := by rw [HKD.out]; exact RR.out.slack
      have u1 : ¬ l < smTo zs k := by omega
      have u2 : ¬ slk C N o < smTo zs k := by omega
      go_wp2_with fail
      go_quiet (fail)
      obtain ⟨h, hh⟩ : ∃ h : Nat, h = d / 2 := ⟨_, rfl⟩
      have e0 : (d : Int) / 2 = (h : Int) := by omega
      have hh1 : h ≤ d := by omega
      have hh2 : 2 * h ≤ d := by omega
      have HHH := Lib.hid hh
      clear hh f2 u1 u2 m1 m2
      go_wp2_with fail
      clear e0
      have hS := Lib.hid (args_drewN nq G3.out)
      have HT3 := G3
      clear G3
      go_loop [14, 15] (fun s i => ∃ j : Nat, j ≤ h ∧ i = .int .i64 j ∧ s = .int .i64 (smTo zs j)) (fun _ i => h - (intOf i).toNat)
      case atStart => exact ⟨0, Nat.zero_le _, rfl, by rw [smTo_zero]⟩
      case round =>
        obtain ⟨j, hj, rfl, rfl⟩ := hrel
        obtain ⟨m1, m2⟩ := RR.out.left j (by omega)
        by_cases hjd : j < h
        · have gc := GL.out j (by omega)
          have v1 := RR.out.one j (by omega)
          have hsu := smTo_succ zs j (by omega)
          obtain ⟨m3, m4⟩ := RR.out.left (j + 1) (by omega)
          rw [hsu] at m4
          have HSU := Lib.hid hsu
          clear hsu m3
          generalize zs.getD j 0 = z at *
          go_wp2
          go_round
          case rel => exact ⟨j + 1, by omega, by go_num, by rw [HSU.out]⟩
          case measure => simp [intOf]; omega
        · have HJ : Hid (j = h) := (by omega : j = h)
          have HP := Lib.hid (run_part HC.out hlen RR.out hh1 HJ.out)
          have e1 : IntKind.i64.wrap (o + smTo zs j) = o + smTo zs j := IntWalk.i64_in _ (by omega)
          have e2 : IntKind.i64.wrap (l - smTo zs j) = l - smTo zs j := IntWalk.i64_in _ (by omega)
          have i1 : (h : Int) ≤ (zs.length : Int) := by omega
          have i2 : (zs.length : Int) ≤ (cap : Int) := by omega
          have i3 : h ≤ zs.length := by omega
          have i4 : ¬ cap = h := by omega
          have HT := hS.out
          go_wp2_with fail
          go_region_held3 (fun w' => w'.cell? ⟨w.heap.size, 0, none⟩ = some (.int .i64 C) ∧ w'.cell? ⟨w.heap.size, 1, none⟩ = some (.int .i64 N) ∧ w'.cell? ⟨w.heap.size, 2, none⟩ = some (.int .i64 S) ∧ w'.cell? ⟨w.heap.size, 3, none⟩ = some (.int .i64 K) ∧ w'.cell? ⟨w.heap.size, 4, none⟩ = some (.int .i64 Q) ∧ w'.cell? ⟨w.heap.size + 1, 0, none⟩ = some (.int .i64 o) ∧ w'.cell? ⟨w.heap.size + 1, 1, none⟩ = some (.int .i64 l) ∧ w.heap.size + 1 < w'.heap.size ∧ Below w.heap.size w w') (first | exact args_drew HT | exact args_drewN _ HT3.out | exact args_call (by with_reducible assumption) (args_drewN _ HT3.out) | exact args_call (by with_reducible assumption) (by with_reducible assumption))
            (first | (go_at_call 12; refine (run_at _ (ints_drop (zs := zs) (h := h) (by exact gz) (by exact GL.out) (by first | rfl | omega)) HP.out).mono ?_; rintro e w4 ⟨rfl, hb4⟩))
          have R4 : Args w C N S K Q o l w4 := by with_reducible assumption
          go_wp2_with fail
          refine (awake_any _).mono ?_
          rintro e w5 ⟨rfl, hb5⟩
          go_wp2
          go_ret
          exact ⟨rfl, below_call hb5 (args_below R4) (Nat.le_refl _)⟩

set_option maxRecDepth 100000 in
set_option maxHeartbeats 8000000 in
theorem sums_main_11 (C N S K Q o l : Int) (zs : List Int) (d zb off cap : Nat) (w : World) (hz : zb < w.heap.size) (hcell : ∀ i : Nat, i < zs.length → w.cell? ⟨zb, off + i, none⟩ = some (.int .i64 (zs.getD i 0))) (hcap : zs.length ≤ cap) (hp : 0 < zs.length) (hlen : zs.length ≤ 60) (hc : cfgB C N S K Q = true) (hs : stB C N S o l = true) (hr : runX C N S K Q o l zs = ((d : Int), 11)) (R : RunSum C N S K Q o l zs d 11) : Calls Try.prog 7 #[.agg #[.int .i64 C, .int .i64 N, .int .i64 S, .int .i64 K, .int .i64 Q], .agg #[.int .i64 o, .int .i64 l], .slice (some ⟨zb, off, none⟩) zs.length cap] w (Ret (.bool true) w) := by
  obtain ⟨⟨c1, c2⟩, ⟨n1, n2⟩, ⟨s1, s2⟩, ⟨_, _⟩, _, _⟩ := cfgB_true.1 hc
  obtain ⟨b1, b2⟩ := prod_bounds c1 c2 n1 n2
  obtain ⟨⟨o1, o2⟩, l1, l2, l3⟩ := stB_true.1 hs
  have H0 := Lib.hid (chkE_ok hc hs)
  have HC := Lib.hid hc
  have ho : (cfgB C N S K Q && occB C N S o) = true := by rw [hc, occ_of_st hs]; rfl
  have HO := Lib.hid (occE_ok ho)
  have HK : Hid (slackN C N S K Q o = slk C N o) := by unfold slackN; rw [ho]; rfl
  have hsl := slk_nonneg C N o
  clear hc hs ho
  have HV : Hid (IntsAt w (.slice (some ⟨zb, off, none⟩) zs.length cap) zs) := .inr ⟨zb, off, cap, rfl, fun _ => hz, hcell⟩
  have HR := Lib.hid hr
  have HL := Lib.hid hcell
  have HZ := Lib.hid hz
  have hll : ¬ 60 < zs.length := by omega
  have hd := R.le
  have hd' : ¬ zs.length < d := by omega
  have t1 : ((d : Int) == (zs.length : Int)) = false := by
    have h9 : ¬ d = zs.length := fun h => absurd (R.iff.2 h) (by decide)
    simp; omega
  have RR := Lib.hid R
  clear hr R hcell hz
  go_enter Try.func7, Try.ntmps7
  go_wp2_with fail
  refine (run_at _ (ints_below (args_below args_start) rfl HV.out) HR.out).mono ?_
  rintro e w1 ⟨rfl, hb1⟩
  have G1 := Lib.hid (args_call hb1 args_start)
  obtain ⟨q0, q1, q2, q3, q4, q5, q6, qz, qb⟩ := G1.out
  clear hb1
  go_wp2_with fail
  refine (check_at _ H0.out).mono ?_
  rintro e w2 ⟨rfl, hb2⟩
  have G2 := Lib.hid (args_call hb2 G1.out)
  obtain ⟨p0, p1, p2, p3, p4, p5, p6, pz, pb⟩ := G2.out
  clear hb2 q0 q1 q2 q3 q4 q5 q6 qz qb
  go_wp2_with fail
  refine (slack_at _ HK.out HO.out).mono ?_
  rintro e w3 ⟨rfl, hb3⟩
  have G3 := Lib.hid (args_call hb3 G2.out)
  obtain ⟨q0, q1, q2, q3, q4, q5, q6, qz, qb⟩ := G3.out
  clear hb3 p0 p1 p2 p3 p4 p5 p6 pz pb
  go_wp2_with fail
  have gz := Nat.lt_of_lt_of_le HZ.out qb.size
  have GL : Hid (∀ i : Nat, i < zs.length → w3.cell? ⟨zb, off + i, none⟩ = some (.int .i64 (zs.getD i 0))) := fun i hi => (qb.cell (p := ⟨zb, off + i, none⟩) HZ.out).trans (HL.out i hi)
  clear G1 G2
  go_loop [11, 12] (fun s i => ∃ k : Nat, k ≤ d ∧ i = .int .i64 k ∧ s = .int .i64 (smTo zs k)) (fun _ i => d - (intOf i).toNat)
  case atStart => exact ⟨0, Nat.zero_le _, rfl, by rw [smTo_zero]⟩
  case round =>
    obtain ⟨k, hk, rfl, rfl⟩ := hrel
    obtain ⟨m1, m2⟩ := RR.out.left k hk
    by_cases hkd : k < d
    · have gc := GL.out k (by omega)
      have v1 := RR.out.one k hkd
      have hsu := smTo_succ zs k (by omega)
      obtain ⟨m3, m4⟩ := RR.out.left (k + 1) (by omega)
      rw [hsu] at m4
      have HSU := Lib.hid hsu
      clear hsu m3
      generalize zs.getD k 0 = z at *
      go_wp2
      go_round
      case rel => exact ⟨k + 1, by omega, by go_num, by rw [HSU.out]⟩
      case measure => simp [intOf]; omega
    · have HKD : Hid (k = d) := (by omega : k = d)
      have f2 : smTo zs k ≤ slk C N o := by rw [HKD.out]; exact RR.out.slack
      have u1 : ¬ l < smTo zs k := by omega
      have u2 : ¬ slk C N o < smTo zs k := by omega
      go_wp2_with fail
      go_quiet (fail)
      obtain ⟨h, hh⟩ : ∃ h : Nat, h = d / 2 := ⟨_, rfl⟩
      have e0 : (d : Int) / 2 = (h : Int) := by omega
      have hh1 : h ≤ d := by omega
      have hh2 : 2 * h ≤ d := by omega
      have HHH := Lib.hid hh
      clear hh f2 u1 u2 m1 m2
      go_wp2_with fail
      clear e0
      have hS := Lib.hid (args_drewN nq G3.out)
      have HT3 := G3
      clear G3
      go_loop [14, 15] (fun s i => ∃ j : Nat, j ≤ h ∧ i = .int .i64 j ∧ s = .int .i64 (smTo zs j)) (fun _ i => h - (intOf i).toNat)
      case atStart => exact ⟨0, Nat.zero_le _, rfl, by rw [smTo_zero]⟩
      case round =>
        obtain ⟨j, hj, rfl, rfl⟩ := hrel
        obtain ⟨m1, m2⟩ := RR.out.left j (by omega)
        by_cases hjd : j < h
        · have gc := GL.out j (by omega)
          have v1 := RR.out.one j (by omega)
          have hsu := smTo_succ zs j (by omega)
          obtain ⟨m3, m4⟩ := RR.out.left (j + 1) (by omega)
          rw [hsu] at m4
          have HSU := Lib.hid hsu
          clear hsu m3
          generalize zs.getD j 0 = z at *
          go_wp2
          go_round
          case rel => exact ⟨j + 1, by omega, by go_num, by rw [HSU.out]⟩
          case measure => simp [intOf]; omega
        · have HJ : Hid (j = h) := (by omega : j = h)
          have HP := Lib.hid (run_part HC.out hlen RR.out hh1 HJ.out)
          have e1 : IntKind.i64.wrap (o + smTo zs j) = o + smTo zs j := IntWalk.i64_in _ (by omega)
          have e2 : IntKind.i64.wrap (l - smTo zs j) = l - smTo zs j := IntWalk.i64_in _ (by omega)
          have i1 : (h : Int) ≤ (zs.length : Int) := by omega
          have i2 : (zs.length : Int) ≤ (cap : Int) := by omega
          have i3 : h ≤ zs.length := by omega
          have i4 : ¬ cap = h := by omega
          have HT := hS.out
          go_wp2_with fail
          go_region_held3 (fun w' => w'.cell? ⟨w.heap.size, 0, none⟩ = some (.int .i64 C) ∧ w'.cell? ⟨w.heap.size, 1, none⟩ = some (.int .i64 N) ∧ w'.cell? ⟨w.heap.size, 2, none⟩ = some (.int .i64 S) ∧ w'.cell? ⟨w.heap.size, 3, none⟩ = some (.int .i64 K) ∧ w'.cell? ⟨w.heap.size, 4, none⟩ = some (.int .i64 Q) ∧ w'.cell? ⟨w.heap.size + 1, 0, none⟩ = some (.int .i64 o) ∧ w'.cell? ⟨w.heap.size + 1, 1, none⟩ = some (.int .i64 l) ∧ w.heap.size + 1 < w'.heap.size ∧ Below w.heap.size w w') (first | exact args_drew HT | exact args_drewN _ HT3.out | exact args_call (by with_reducible assumption) (args_drewN _ HT3.out) | exact args_call (by with_reducible assumption) (by with_reducible assumption))
            (first | (go_at_call 12; refine (run_at _ (ints_drop (zs := zs) (h := h) (by exact gz) (by exact GL.out) (by first | rfl | omega)) HP.out).mono ?_; rintro e w4 ⟨rfl, hb4⟩))
          have R4 : Args w C N S K Q o l w4 := by with_reducible assumption
          go_wp2_with fail
          refine (awake_any _).mono ?_
          rintro e w5 ⟨rfl, hb5⟩
          go_wp2
          go_ret
          exact ⟨rfl, below_call hb5 (args_below R4) (Nat.le_refl _)⟩
end Go.Proofs.Ytohlaginanbclaa
