/-
  Every run of AdmitRoom answers true, whatever the config, the state and the list, and leaves what was there as it was: its walk, out of the contracts of the program and of the reference.
-/
import Derived.Test.YtohlaginanbclaaList
import Derived.StillTailTactics
import Derived.Deep.RegionHeld3
namespace Go.Proofs.Ytohlaginanbclaa
open Go.ChangeShapes Go.WideShapes Go.ChangeAt Go.RowKit

/-- The config, the state that the law changes, and what was there before the call. -/
def RoomSt (w0 : World) (C N S K Q o l : Int) (w : World) : Prop := Args w0 C N S K Q o l w ∧ w.frozen? ⟨w0.heap.size + 1, 0, none⟩ = false ∧ w.frozen? ⟨w0.heap.size + 1, 1, none⟩ = false
theorem room_start {w0 : World} {C N S K Q o l : Int} : RoomSt w0 C N S K Q o l ((w0.alloc (.cells #[.int .i64 C, .int .i64 N, .int .i64 S, .int .i64 K, .int .i64 Q] 23)).alloc (.cells #[.int .i64 o, .int .i64 l] 25)) :=
  ⟨args_start, by go_simp, by go_simp⟩
theorem room_call {w0 W w1 : World} {C N S K Q o l : Int} (hb : Below W.heap.size W w1) (h : RoomSt w0 C N S K Q o l W) : RoomSt w0 C N S K Q o l w1 := by
  obtain ⟨ha, f0, f1⟩ := h
  have hz := ha.2.2.2.2.2.2.2.1
  exact ⟨args_call hb ha, (hb.frozen (p := ⟨w0.heap.size + 1, 0, none⟩) hz).trans f0, (hb.frozen (p := ⟨w0.heap.size + 1, 1, none⟩) hz).trans f1⟩
theorem room_drew {w0 W : World} {C N S K Q o l : Int} (h : RoomSt w0 C N S K Q o l W) : RoomSt w0 C N S K Q o l W.drew := ⟨args_drew h.1, h.2.1, h.2.2⟩
theorem room_step {w0 W : World} {C N S K Q o l o' l' : Int} (h : RoomSt w0 C N S K Q o l W) : RoomSt w0 C N S K Q o' l' ((W.setCell ⟨w0.heap.size + 1, 0, none⟩ (.int .i64 o')).setCell ⟨w0.heap.size + 1, 1, none⟩ (.int .i64 l')) := by
  obtain ⟨⟨h0, h1, h2, h3, h4, h5, h6, hz, hl⟩, f0, f1⟩ := h
  refine ⟨⟨?_, ?_, ?_, ?_, ?_, ?_, ?_, ?_, below_set (below_set hl (by simp) _) (by simp) _⟩, ?_, ?_⟩
  all_goals first | (simp [World.cell?_setCell_other, h0, h1, h2, h3, h4]; done) | (simp [World.setCell]; exact hz) | (simp [f0, f1]; done) | (go_simp; done)

/-- What the law reads while it asks whether a number is admitted. -/
abbrev RoomS (w : World) (zb off k : Nat) (C N S K Q o l x : Int) (w' : World) : Prop := w'.cell? ⟨w.heap.size, 0, none⟩ = some (.int .i64 C) ∧ w'.cell? ⟨w.heap.size, 1, none⟩ = some (.int .i64 N) ∧ w'.cell? ⟨w.heap.size, 2, none⟩ = some (.int .i64 S) ∧ w'.cell? ⟨w.heap.size, 3, none⟩ = some (.int .i64 K) ∧ w'.cell? ⟨w.heap.size, 4, none⟩ = some (.int .i64 Q) ∧ w'.cell? ⟨w.heap.size + 1, 0, none⟩ = some (.int .i64 o) ∧ w'.cell? ⟨w.heap.size + 1, 1, none⟩ = some (.int .i64 l) ∧ w'.cell? ⟨zb, off + k, none⟩ = some (.int .i64 x) ∧ zb < w'.heap.size ∧ RoomSt w C N S K Q o l w'
theorem rooms_of {w w' : World} {zb off k : Nat} {C N S K Q o l x : Int} (h : RoomSt w C N S K Q o l w') (hc : w'.cell? ⟨zb, off + k, none⟩ = some (.int .i64 x)) (hz : zb < w'.heap.size) : RoomS w zb off k C N S K Q o l x w' :=
  ⟨h.1.1, h.1.2.1, h.1.2.2.1, h.1.2.2.2.1, h.1.2.2.2.2.1, h.1.2.2.2.2.2.1, h.1.2.2.2.2.2.2.1, hc, hz, h⟩
theorem rooms_call {w W w1 : World} {zb off k : Nat} {C N S K Q o l x : Int} (hb : Below W.heap.size W w1) (h : RoomS w zb off k C N S K Q o l x W) : RoomS w zb off k C N S K Q o l x w1 := by
  obtain ⟨_, _, _, _, _, _, _, hc, hz, hr⟩ := h
  exact rooms_of (room_call hb hr) ((hb.cell (p := ⟨zb, off + k, none⟩) hz).trans hc) (Nat.lt_of_lt_of_le hz hb.size)
theorem rooms_drew {w W : World} {zb off k : Nat} {C N S K Q o l x : Int} (h : RoomS w zb off k C N S K Q o l x W) : RoomS w zb off k C N S K Q o l x W.drew := by
  obtain ⟨_, _, _, _, _, _, _, hc, hz, hr⟩ := h
  exact rooms_of (room_drew hr) hc hz

set_option maxHeartbeats 1000000 in
theorem room_walk_cfg (C N S K Q o l : Int) (zs : List Int) (a : Option Addr) (cap : Nat) (w : World) (h : cfgB C N S K Q = false) : Calls Try.prog 10 #[.agg #[.int .i64 C, .int .i64 N, .int .i64 S, .int .i64 K, .int .i64 Q], .agg #[.int .i64 o, .int .i64 l], .slice a zs.length cap] w (Ret (.bool true) w) := by
  have H := Lib.hid h
  clear h
  go_enter Try.func10, Try.ntmps10
  go_wp2_with fail
  refine (refBudget_no _ _ _ _ _ _ H.out).mono ?_
  rintro e w1 ⟨rfl, hb1⟩
  have G1 := Lib.hid (args_call hb1 args_start)
  obtain ⟨q0, q1, q2, q3, q4, q5, q6, qz, qb⟩ := G1.out
  clear hb1
  go_wp2_with fail
  refine (awake_any _).mono ?_
  rintro e w2 ⟨rfl, hb2⟩
  have G2 := Lib.hid (args_call hb2 G1.out)
  obtain ⟨p0, p1, p2, p3, p4, p5, p6, pz, pb⟩ := G2.out
  clear hb2 q0 q1 q2 q3 q4 q5 q6 qz qb
  go_wp2
  go_ret
  exact ⟨rfl, pb⟩

set_option maxHeartbeats 1000000 in
theorem room_walk_st (C N S K Q o l : Int) (zs : List Int) (a : Option Addr) (cap : Nat) (w : World) (hc : cfgB C N S K Q = true) (h : stB C N S o l = false) : Calls Try.prog 10 #[.agg #[.int .i64 C, .int .i64 N, .int .i64 S, .int .i64 K, .int .i64 Q], .agg #[.int .i64 o, .int .i64 l], .slice a zs.length cap] w (Ret (.bool true) w) := by
  have H7 : Hid (chkE C N S K Q o l = 7) := chkE_no (by rw [h, Bool.and_false])
  have HC := Lib.hid hc
  clear h hc
  go_enter Try.func10, Try.ntmps10
  go_wp2_with fail
  refine (refBudget_ok _ _ _ _ _ _ HC.out).mono ?_
  rintro e w1 ⟨rfl, hb1⟩
  have G1 := Lib.hid (args_call hb1 args_start)
  obtain ⟨q0, q1, q2, q3, q4, q5, q6, qz, qb⟩ := G1.out
  clear hb1
  go_wp2_with fail
  refine (check_at _ H7.out).mono ?_
  rintro e w2 ⟨rfl, hb2⟩
  have G2 := Lib.hid (args_call hb2 G1.out)
  obtain ⟨p0, p1, p2, p3, p4, p5, p6, pz, pb⟩ := G2.out
  clear hb2 q0 q1 q2 q3 q4 q5 q6 qz qb
  go_wp2_with fail
  refine (awake_any _).mono ?_
  rintro e w3 ⟨rfl, hb3⟩
  have G3 := Lib.hid (args_call hb3 G2.out)
  obtain ⟨q0, q1, q2, q3, q4, q5, q6, qz, qb⟩ := G3.out
  clear hb3 p0 p1 p2 p3 p4 p5 p6 pz pb
  go_wp2
  go_ret
  exact ⟨rfl, qb⟩

set_option maxHeartbeats 1000000 in
theorem room_walk_big (C N S K Q o l : Int) (zs : List Int) (a : Option Addr) (cap : Nat) (w : World) (hc : cfgB C N S K Q = true) (hs : stB C N S o l = true) (h : bud C N < 2 * o) : Calls Try.prog 10 #[.agg #[.int .i64 C, .int .i64 N, .int .i64 S, .int .i64 K, .int .i64 Q], .agg #[.int .i64 o, .int .i64 l], .slice a zs.length cap] w (Ret (.bool true) w) := by
  obtain ⟨⟨c1, c2⟩, ⟨n1, n2⟩, ⟨s1, s2⟩, ⟨_, _⟩, _, _⟩ := cfgB_true.1 hc
  obtain ⟨b1, b2⟩ := prod_bounds c1 c2 n1 n2
  obtain ⟨b4, b5, _⟩ := budget_bounds c1 c2 n1 n2
  have b7 : 8 ≤ bud C N := b4
  have b8 : bud C N ≤ 1152 := b5
  obtain ⟨⟨o1, o2⟩, l1, l2, l3⟩ := stB_true.1 hs
  have H0 := Lib.hid (chkE_ok hc hs)
  have HC := Lib.hid hc
  have HS := Lib.hid hs
  clear b4 b5
  clear hc hs
  go_enter Try.func10, Try.ntmps10
  go_wp2_with fail
  refine (refBudget_ok _ _ _ _ _ _ HC.out).mono ?_
  rintro e w1 ⟨rfl, hb1⟩
  have G1 := Lib.hid (args_call hb1 args_start)
  obtain ⟨q0, q1, q2, q3, q4, q5, q6, qz, qb⟩ := G1.out
  clear hb1
  go_wp2_with fail
  refine (check_at _ H0.out).mono ?_
  rintro e w2 ⟨rfl, hb2⟩
  have G2 := Lib.hid (args_call hb2 G1.out)
  obtain ⟨p0, p1, p2, p3, p4, p5, p6, pz, pb⟩ := G2.out
  clear hb2 q0 q1 q2 q3 q4 q5 q6 qz qb
  go_wp2_with fail
  refine (awake_any _).mono ?_
  rintro e w3 ⟨rfl, hb3⟩
  have G3 := Lib.hid (args_call hb3 G2.out)
  obtain ⟨q0, q1, q2, q3, q4, q5, q6, qz, qb⟩ := G3.out
  clear hb3 p0 p1 p2 p3 p4 p5 p6 pz pb
  go_wp2
  go_ret
  exact ⟨rfl, qb⟩

set_option maxHeartbeats 1000000 in
theorem room_walk_long (C N S K Q o l : Int) (zs : List Int) (a : Option Addr) (cap : Nat) (w : World) (hc : cfgB C N S K Q = true) (hs : stB C N S o l = true) (h : 2 * o ≤ bud C N) (hl : 60 < zs.length) : Calls Try.prog 10 #[.agg #[.int .i64 C, .int .i64 N, .int .i64 S, .int .i64 K, .int .i64 Q], .agg #[.int .i64 o, .int .i64 l], .slice a zs.length cap] w (Ret (.bool true) w) := by
  obtain ⟨⟨c1, c2⟩, ⟨n1, n2⟩, ⟨s1, s2⟩, ⟨_, _⟩, _, _⟩ := cfgB_true.1 hc
  obtain ⟨b1, b2⟩ := prod_bounds c1 c2 n1 n2
  obtain ⟨b4, b5, _⟩ := budget_bounds c1 c2 n1 n2
  have b7 : 8 ≤ bud C N := b4
  have b8 : bud C N ≤ 1152 := b5
  obtain ⟨⟨o1, o2⟩, l1, l2, l3⟩ := stB_true.1 hs
  have H0 := Lib.hid (chkE_ok hc hs)
  have HC := Lib.hid hc
  have HS := Lib.hid hs
  clear b4 b5
  clear hc hs
  go_enter Try.func10, Try.ntmps10
  go_wp2_with fail
  refine (refBudget_ok _ _ _ _ _ _ HC.out).mono ?_
  rintro e w1 ⟨rfl, hb1⟩
  have G1 := Lib.hid (args_call hb1 args_start)
  obtain ⟨q0, q1, q2, q3, q4, q5, q6, qz, qb⟩ := G1.out
  clear hb1
  go_wp2_with fail
  refine (check_at _ H0.out).mono ?_
  rintro e w2 ⟨rfl, hb2⟩
  have G2 := Lib.hid (args_call hb2 G1.out)
  obtain ⟨p0, p1, p2, p3, p4, p5, p6, pz, pb⟩ := G2.out
  clear hb2 q0 q1 q2 q3 q4 q5 q6 qz qb
  go_wp2_with fail
  refine (awake_any _).mono ?_
  rintro e w3 ⟨rfl, hb3⟩
  have G3 := Lib.hid (args_call hb3 G2.out)
  obtain ⟨q0, q1, q2, q3, q4, q5, q6, qz, qb⟩ := G3.out
  clear hb3 p0 p1 p2 p3 p4 p5 p6 pz pb
  go_wp2
  go_ret
  exact ⟨rfl, qb⟩

/-- What holds at the head of each round. -/
def RoomRel (C N S K Q : Int) (zs : List Int) (w : World) (i : Value) (wr : World) : Prop :=
  ∃ (k : Nat) (o l : Int), k ≤ zs.length ∧ i = .int .i64 k ∧ stB C N S o l = true ∧ 2 * o ≤ bud C N ∧ RoomSt w C N S K Q o l wr
theorem cars_is {C N S K Q o : Int} (hc : cfgB C N S K Q = true) (ho : occB C N S o = true) : carsN C N S K Q o = 2 * o / C + 5 := by unfold carsN; rw [hc, ho]; rfl

set_option maxRecDepth 100000 in
set_option maxHeartbeats 8000000 in
theorem room_main (C N S K Q o l : Int) (zs : List Int) (zb off cap : Nat) (w : World) (hz : 0 < zs.length → zb < w.heap.size) (hcell : ∀ i : Nat, i < zs.length → w.cell? ⟨zb, off + i, none⟩ = some (.int .i64 (zs.getD i 0))) (hlen : zs.length ≤ 60) (hc : cfgB C N S K Q = true) (hs : stB C N S o l = true) (h : 2 * o ≤ bud C N) : Calls Try.prog 10 #[.agg #[.int .i64 C, .int .i64 N, .int .i64 S, .int .i64 K, .int .i64 Q], .agg #[.int .i64 o, .int .i64 l], .slice (some ⟨zb, off, none⟩) zs.length cap] w (Ret (.bool true) w) := by
  obtain ⟨⟨c1, c2⟩, ⟨n1, n2⟩, ⟨s1, s2⟩, ⟨_, _⟩, _, _⟩ := cfgB_true.1 hc
  obtain ⟨b1, b2⟩ := prod_bounds c1 c2 n1 n2
  obtain ⟨b4, b5, _⟩ := budget_bounds c1 c2 n1 n2
  have b7 : 8 ≤ bud C N := b4
  have b8 : bud C N ≤ 1152 := b5
  obtain ⟨⟨o1, o2⟩, l1, l2, l3⟩ := stB_true.1 hs
  have H0 := Lib.hid (chkE_ok hc hs)
  have HC := Lib.hid hc
  have HS := Lib.hid hs
  clear b4 b5
  have HH := Lib.hid h
  have HZ := Lib.hid hz
  have HL := Lib.hid hcell
  clear hcell
  have hll : ¬ 60 < zs.length := by omega
  clear hc hs hz
  go_enter Try.func10, Try.ntmps10
  go_wp2_with fail
  refine (refBudget_ok _ _ _ _ _ _ HC.out).mono ?_
  rintro e w1 ⟨rfl, hb1⟩
  have G1 := Lib.hid (room_call hb1 room_start)
  obtain ⟨⟨q0, q1, q2, q3, q4, q5, q6, qz, qb⟩, qf0, qf1⟩ := G1.out
  clear hb1
  go_wp2_with fail
  refine (check_at _ H0.out).mono ?_
  rintro e w2 ⟨rfl, hb2⟩
  have G2 := Lib.hid (room_call hb2 G1.out)
  obtain ⟨⟨p0, p1, p2, p3, p4, p5, p6, pz, pb⟩, pf0, pf1⟩ := G2.out
  clear hb2 q0 q1 q2 q3 q4 q5 q6 qz qb qf0 qf1 G1
  go_wp2_with fail
  clear p0 p1 p2 p3 p4 p5 p6 pz pb pf0 pf1
  go_loopw [9] (fun i wr => RoomRel C N S K Q zs w i wr) (fun i _ => zs.length + 1 - (intOf i).toNat)
  case atStart => exact ⟨0, o, l, Nat.zero_le _, rfl, HS.out, HH.out, G2.out⟩
  case round =>
    clear G2 HH HS H0 o1 o2 l1 l2 l3 h
    obtain ⟨k, o, l, hk, rfl, hst, hbu, hR⟩ := hrel
    obtain ⟨⟨o1, o2⟩, l1, l2, l3⟩ := stB_true.1 hst
    obtain ⟨r1, r2⟩ := cars_room HC.out o1 hbu
    have HO : Hid (occE C N S K Q o = 0) := occE_ok (by rw [HC.out, occ_of_st hst]; rfl)
    have HK := Lib.hid (cars_is (K := K) (Q := Q) HC.out (occ_of_st hst))
    have HT := Lib.hid hst
    have G := Lib.hid hR
    clear hst hR
    obtain ⟨⟨q0, q1, q2, q3, q4, q5, q6, qz, qb⟩, qf0, qf1⟩ := G.out
    generalize hq : 2 * o / C = q at *
    have HQ := Lib.hid hq
    clear hq
    go_wp2_with fail
    refine (cars_at _ HK.out HO.out).mono ?_
    rintro e w3 ⟨rfl, hb3⟩
    have G3 := Lib.hid (room_call hb3 G.out)
    obtain ⟨⟨p0, p1, p2, p3, p4, p5, p6, pz, pb⟩, pf0, pf1⟩ := G3.out
    clear hb3 q0 q1 q2 q3 q4 q5 q6 qz qb qf0 qf1 G
    by_cases hkl : k < zs.length
    · have t1 : ((k : Int) == (zs.length : Int)) = false := by simp; omega
      have gc : _ := (pb.cell (p := ⟨zb, off + k, none⟩) (HZ.out (by omega))).trans (HL.out k hkl)
      have gzb := Nat.lt_of_lt_of_le (HZ.out (by omega)) pb.size
      have hcase := admE_cases C N S K Q o l (zs.getD k 0)
      generalize hx : zs.getD k 0 = x at *
      have HX := Lib.hid hx
      clear hx
      rcases hcase with ha | ha | ha | ha
      · obtain ⟨_, _, a1, a2, a3, a4, a5, a6, A7⟩ := adm_zero ha
        have HA := Lib.hid ha
        have H7 := Lib.hid A7
        have H8 := Lib.hid (chkE_ok HC.out A7)
        have H6 := Lib.hid a6
        clear ha A7
        go_wp2_with fail
        have hS : RoomS w zb off k C N S K Q o l x w3 := rooms_of G3.out gc gzb
        go_region_held3 (fun w' => w'.cell? ⟨w.heap.size, 0, none⟩ = some (.int .i64 C) ∧ w'.cell? ⟨w.heap.size, 1, none⟩ = some (.int .i64 N) ∧ w'.cell? ⟨w.heap.size, 2, none⟩ = some (.int .i64 S) ∧ w'.cell? ⟨w.heap.size, 3, none⟩ = some (.int .i64 K) ∧ w'.cell? ⟨w.heap.size, 4, none⟩ = some (.int .i64 Q) ∧ w'.cell? ⟨w.heap.size + 1, 0, none⟩ = some (.int .i64 o) ∧ w'.cell? ⟨w.heap.size + 1, 1, none⟩ = some (.int .i64 l) ∧ w'.cell? ⟨zb, off + k, none⟩ = some (.int .i64 x) ∧ zb < w'.heap.size ∧ RoomSt w C N S K Q o l w') (first | exact rooms_drew hS | exact rooms_call (by with_reducible assumption) (by with_reducible assumption))
          (first | (go_at_call 14; refine (adm_at 0 1 0 _ HA.out rfl rfl).mono ?_; rintro e w4 ⟨rfl, hb4⟩))
        have R4 : RoomS w zb off k C N S K Q o l x w4 := by with_reducible assumption
        have G4 := Lib.hid R4.2.2.2.2.2.2.2.2.2
        have gc4 := R4.2.2.2.2.2.2.2.1
        clear R4 hS
        obtain ⟨⟨q0, q1, q2, q3, q4, q5, q6, qz, qb⟩, qf0, qf1⟩ := G4.out
        clear hb4 p0 p1 p2 p3 p4 p5 p6 pz pb pf0 pf1 G3
        go_wp2_with fail
        go_still_tail 15, (by kernel_rfl)
        go_wp2_with fail
        have G5 := Lib.hid (room_step (o' := o + x) (l' := l - x) (room_drew G4.out))
        refine (check_at _ H8.out).mono ?_
        rintro e w5 ⟨rfl, hb5⟩
        have G6 := Lib.hid (room_call hb5 G5.out)
        go_wp2
        exact ⟨⟨k + 1, o + x, l - x, by omega, by go_num, H7.out, H6.out, G6.out⟩, by simp [intOf]; omega⟩
      · have HA := Lib.hid ha
        clear ha
        go_wp2_with fail
        have hS : RoomS w zb off k C N S K Q o l x w3 := rooms_of G3.out gc gzb
        go_region_held3 (fun w' => w'.cell? ⟨w.heap.size, 0, none⟩ = some (.int .i64 C) ∧ w'.cell? ⟨w.heap.size, 1, none⟩ = some (.int .i64 N) ∧ w'.cell? ⟨w.heap.size, 2, none⟩ = some (.int .i64 S) ∧ w'.cell? ⟨w.heap.size, 3, none⟩ = some (.int .i64 K) ∧ w'.cell? ⟨w.heap.size, 4, none⟩ = some (.int .i64 Q) ∧ w'.cell? ⟨w.heap.size + 1, 0, none⟩ = some (.int .i64 o) ∧ w'.cell? ⟨w.heap.size + 1, 1, none⟩ = some (.int .i64 l) ∧ w'.cell? ⟨zb, off + k, none⟩ = some (.int .i64 x) ∧ zb < w'.heap.size ∧ RoomSt w C N S K Q o l w') (first | exact rooms_drew hS | exact rooms_call (by with_reducible assumption) (by with_reducible assumption))
          (first | (go_at_call 14; refine (adm_at 5 2 0 _ HA.out rfl rfl).mono ?_; rintro e w4 ⟨rfl, hb4⟩))
        have R4 : RoomS w zb off k C N S K Q o l x w4 := by with_reducible assumption
        have G4 := Lib.hid R4.2.2.2.2.2.2.2.2.2
        clear R4 hS
        go_wp2
        exact ⟨⟨k + 1, o, l, by omega, by go_num, HT.out, hbu, G4.out⟩, by simp [intOf]; omega⟩
      · have HA := Lib.hid ha
        clear ha
        go_wp2_with fail
        have hS : RoomS w zb off k C N S K Q o l x w3 := rooms_of G3.out gc gzb
        go_region_held3 (fun w' => w'.cell? ⟨w.heap.size, 0, none⟩ = some (.int .i64 C) ∧ w'.cell? ⟨w.heap.size, 1, none⟩ = some (.int .i64 N) ∧ w'.cell? ⟨w.heap.size, 2, none⟩ = some (.int .i64 S) ∧ w'.cell? ⟨w.heap.size, 3, none⟩ = some (.int .i64 K) ∧ w'.cell? ⟨w.heap.size, 4, none⟩ = some (.int .i64 Q) ∧ w'.cell? ⟨w.heap.size + 1, 0, none⟩ = some (.int .i64 o) ∧ w'.cell? ⟨w.heap.size + 1, 1, none⟩ = some (.int .i64 l) ∧ w'.cell? ⟨zb, off + k, none⟩ = some (.int .i64 x) ∧ zb < w'.heap.size ∧ RoomSt w C N S K Q o l w') (first | exact rooms_drew hS | exact rooms_call (by with_reducible assumption) (by with_reducible assumption))
          (first | (go_at_call 14; refine (adm_at 7 0 7 _ HA.out rfl rfl).mono ?_; rintro e w4 ⟨rfl, hb4⟩))
        have R4 : RoomS w zb off k C N S K Q o l x w4 := by with_reducible assumption
        have G4 := Lib.hid R4.2.2.2.2.2.2.2.2.2
        clear R4 hS
        go_wp2
        exact ⟨⟨k + 1, o, l, by omega, by go_num, HT.out, hbu, G4.out⟩, by simp [intOf]; omega⟩
      · have HA := Lib.hid ha
        clear ha
        go_wp2_with fail
        have hS : RoomS w zb off k C N S K Q o l x w3 := rooms_of G3.out gc gzb
        go_region_held3 (fun w' => w'.cell? ⟨w.heap.size, 0, none⟩ = some (.int .i64 C) ∧ w'.cell? ⟨w.heap.size, 1, none⟩ = some (.int .i64 N) ∧ w'.cell? ⟨w.heap.size, 2, none⟩ = some (.int .i64 S) ∧ w'.cell? ⟨w.heap.size, 3, none⟩ = some (.int .i64 K) ∧ w'.cell? ⟨w.heap.size, 4, none⟩ = some (.int .i64 Q) ∧ w'.cell? ⟨w.heap.size + 1, 0, none⟩ = some (.int .i64 o) ∧ w'.cell? ⟨w.heap.size + 1, 1, none⟩ = some (.int .i64 l) ∧ w'.cell? ⟨zb, off + k, none⟩ = some (.int .i64 x) ∧ zb < w'.heap.size ∧ RoomSt w C N S K Q o l w') (first | exact rooms_drew hS | exact rooms_call (by with_reducible assumption) (by with_reducible assumption))
          (first | (go_at_call 14; refine (adm_at 11 0 11 _ HA.out rfl rfl).mono ?_; rintro e w4 ⟨rfl, hb4⟩))
        have R4 : RoomS w zb off k C N S K Q o l x w4 := by with_reducible assumption
        have G4 := Lib.hid R4.2.2.2.2.2.2.2.2.2
        clear R4 hS
        go_wp2
        exact ⟨⟨k + 1, o, l, by omega, by go_num, HT.out, hbu, G4.out⟩, by simp [intOf]; omega⟩
    · have t1 : ((k : Int) == (zs.length : Int)) = true := by simp; omega
      go_wp2_with fail
      refine (awake_any _).mono ?_
      rintro e w4 ⟨rfl, hb4⟩
      go_wp2
      go_ret
      exact ⟨rfl, below_call hb4 pb (Nat.le_refl _)⟩

set_option maxRecDepth 100000 in
set_option maxHeartbeats 8000000 in
theorem room_nil (C N S K Q o l : Int) (zs : List Int) (a : Option Addr) (cap : Nat) (w : World) (hz : zs.length = 0) (hlen : zs.length ≤ 60) (hc : cfgB C N S K Q = true) (hs : stB C N S o l = true) (h : 2 * o ≤ bud C N) : Calls Try.prog 10 #[.agg #[.int .i64 C, .int .i64 N, .int .i64 S, .int .i64 K, .int .i64 Q], .agg #[.int .i64 o, .int .i64 l], .slice a zs.length cap] w (Ret (.bool true) w) := by
  obtain ⟨⟨c1, c2⟩, ⟨n1, n2⟩, ⟨s1, s2⟩, ⟨_, _⟩, _, _⟩ := cfgB_true.1 hc
  obtain ⟨b1, b2⟩ := prod_bounds c1 c2 n1 n2
  obtain ⟨b4, b5, _⟩ := budget_bounds c1 c2 n1 n2
  have b7 : 8 ≤ bud C N := b4
  have b8 : bud C N ≤ 1152 := b5
  obtain ⟨⟨o1, o2⟩, l1, l2, l3⟩ := stB_true.1 hs
  have H0 := Lib.hid (chkE_ok hc hs)
  have HC := Lib.hid hc
  have HS := Lib.hid hs
  clear b4 b5
  have HH := Lib.hid h
  have HZ := Lib.hid hz
  have hll : ¬ 60 < zs.length := by omega
  clear hc hs hz
  go_enter Try.func10, Try.ntmps10
  go_wp2_with fail
  refine (refBudget_ok _ _ _ _ _ _ HC.out).mono ?_
  rintro e w1 ⟨rfl, hb1⟩
  have G1 := Lib.hid (room_call hb1 room_start)
  obtain ⟨⟨q0, q1, q2, q3, q4, q5, q6, qz, qb⟩, qf0, qf1⟩ := G1.out
  clear hb1
  go_wp2_with fail
  refine (check_at _ H0.out).mono ?_
  rintro e w2 ⟨rfl, hb2⟩
  have G2 := Lib.hid (room_call hb2 G1.out)
  obtain ⟨⟨p0, p1, p2, p3, p4, p5, p6, pz, pb⟩, pf0, pf1⟩ := G2.out
  clear hb2 q0 q1 q2 q3 q4 q5 q6 qz qb qf0 qf1 G1
  go_wp2_with fail
  clear p0 p1 p2 p3 p4 p5 p6 pz pb pf0 pf1
  go_loopw [9] (fun i wr => RoomRel C N S K Q zs w i wr) (fun i _ => zs.length + 1 - (intOf i).toNat)
  case atStart => exact ⟨0, o, l, Nat.zero_le _, rfl, HS.out, HH.out, G2.out⟩
  case round =>
    clear G2 HH HS H0 o1 o2 l1 l2 l3 h
    obtain ⟨k, o, l, hk, rfl, hst, hbu, hR⟩ := hrel
    obtain ⟨⟨o1, o2⟩, l1, l2, l3⟩ := stB_true.1 hst
    obtain ⟨r1, r2⟩ := cars_room HC.out o1 hbu
    have HO : Hid (occE C N S K Q o = 0) := occE_ok (by rw [HC.out, occ_of_st hst]; rfl)
    have HK := Lib.hid (cars_is (K := K) (Q := Q) HC.out (occ_of_st hst))
    have HT := Lib.hid hst
    have G := Lib.hid hR
    clear hst hR
    obtain ⟨⟨q0, q1, q2, q3, q4, q5, q6, qz, qb⟩, qf0, qf1⟩ := G.out
    generalize hq : 2 * o / C = q at *
    have HQ := Lib.hid hq
    clear hq
    go_wp2_with fail
    refine (cars_at _ HK.out HO.out).mono ?_
    rintro e w3 ⟨rfl, hb3⟩
    have G3 := Lib.hid (room_call hb3 G.out)
    obtain ⟨⟨p0, p1, p2, p3, p4, p5, p6, pz, pb⟩, pf0, pf1⟩ := G3.out
    clear hb3 q0 q1 q2 q3 q4 q5 q6 qz qb qf0 qf1 G
    have hkl := HZ.out
    have t1 : ((k : Int) == (zs.length : Int)) = true := by simp; omega
    go_wp2_with fail
    refine (awake_any _).mono ?_
    rintro e w4 ⟨rfl, hb4⟩
    go_wp2
    go_ret
    exact ⟨rfl, below_call hb4 pb (Nat.le_refl _)⟩

theorem room_walk (C N S K Q o l : Int) (zs : List Int) (v : Value) (w : World) (hv : IntsAt w v zs) : Calls Try.prog 10 #[.agg #[.int .i64 C, .int .i64 N, .int .i64 S, .int .i64 K, .int .i64 Q], .agg #[.int .i64 o, .int .i64 l], v] w (Ret (.bool true) w) := by
  cases hc : cfgB C N S K Q
  · obtain ⟨a, cap, rfl⟩ := ints_slice hv
    exact room_walk_cfg C N S K Q o l zs a cap w hc
  · cases hs : stB C N S o l
    · obtain ⟨a, cap, rfl⟩ := ints_slice hv
      exact room_walk_st C N S K Q o l zs a cap w hc hs
    · by_cases hb : 2 * o ≤ bud C N
      · by_cases hl : 60 < zs.length
        · obtain ⟨a, cap, rfl⟩ := ints_slice hv
          exact room_walk_long C N S K Q o l zs a cap w hc hs hb hl
        · rcases hv with ⟨rfl, a, cap, rfl⟩ | ⟨zb, off, cap, rfl, hz, hcell⟩
          · exact room_nil C N S K Q o l [] a cap w rfl (by simp) hc hs hb
          · exact room_main C N S K Q o l zs zb off cap w hz hcell (by omega) hc hs hb
      · obtain ⟨a, cap, rfl⟩ := ints_slice hv
        exact room_walk_big C N S K Q o l zs a cap w hc hs (by omega)

set_option maxRecDepth 100000 in
theorem admitRoom_lifted (os : Os) (started : os.Started) (H : Type) (enc : TypeId × Value → H) :
    ReturnsInHanded {} Try.checked os 10 .any (Rows.admitRoomSpec.pre6 enc Try.prog Try.f10 Rows.admitRoomRow.domain false) (Rows.admitRoomSpec.post enc Try.prog Try.f10 false true false false) := by
  refine returnsInHanded_of_change (C := Try.checked) own started (by kernel_rfl) Try.func10
    (ChangeSpec.witness6 (enc := enc) (C := Try.checked) false ⟨#[], #[.agg #[.int .i64 0, .int .i64 0, .int .i64 0, .int .i64 0, .int .i64 0], .agg #[.int .i64 0, .int .i64 0], .slice none 0 0], []⟩ 8 (by kernel_rfl) (by kernel_rfl) (by kernel_rfl) (by kernel_rfl)) ?_
  intro W base args ds gs before hval0 hW hcnd _
  have hval : ∀ (j : Nat) t v, Try.f10.params[j]? = some t → args[j]? = some v → Value.okWide Try.prog W .any base t v := hval0
  have hW' := hW
  obtain ⟨p, q, hA0, hV, rfl, hfz, hnd⟩ := hW
  have hA : DataW.TrodAll enc Try.prog W 0 (fun _ => true) true Try.f10.params.toList args.toList ds p := hA0
  obtain ⟨rfl, rfl⟩ := trodVars_none hV
  obtain ⟨v0, v1, v2, d0, d1, d2, p0, p1, p2, rfl, rfl, t0, t1, t2, k0, k1, k2⟩ := law3 Try.params10 hA hval
  obtain ⟨C, N, S, K, Q, rfl⟩ := open_cfg k0 t0
  obtain ⟨o, l, rfl⟩ := open_st k1 t1
  obtain ⟨zs, hzs⟩ := open_list k2 t2
  refine (room_walk C N S K Q o l zs _ W hzs).mono fun e W' ⟨he, hb⟩ => ?_
  subst he
  exact ⟨_, rfl, law_post laidOut (by kernel_rfl) rfl (by kernel_rfl) Try.underlying4 hW' rfl rfl rfl hb⟩

theorem admitRoom_over : Rows.admitRoomRow.holds Try.pinned (OpenSpec.ofChange Rows.admitRoomSpec) :=
  OpenClaim.holds_of_wide 10 Try.f10 rfl rfl rfl rfl rfl rfl rfl ⟨rfl, rfl, rfl, rfl, rfl⟩ rfl rfl rfl rfl rfl (by kernel_rfl) Try.func10 (by kernel_rfl)
    (of_decide_eq_true (by kernel_rfl)) (by unfold Func.isWrapper; first | (rw [if_pos (by decide +kernel)]; kernel_rfl) | (rw [if_neg (by decide +kernel)]; exact ⟨rfl, rfl⟩))
    (fun os started H enc _ => admitRoom_lifted os started H enc)

theorem admitRoom_holds : Rows.AdmitRoomSaid := admitRoom_over
#print axioms admitRoom_holds
end Go.Proofs.Ytohlaginanbclaa
