/-
  Walk of the reference of the layer admit: Run.
-/
import Derived.Test.YtohlaginanbclaaRefd
import Derived.Outline
import Derived.StillTailTactics
import Derived.IntWalk
namespace Go.Proofs.Ytohlaginanbclaa
open Go.RowKit

/-- What holds at the head of each round of the reference's Run. -/
def RefRunRel (C N S K Q o0 l0 : Int) (zs : List Int) (w : World) (ov lv i : Value) (wr : World) : Prop :=
  ∃ (k : Nat) (o l : Int), k ≤ zs.length ∧ i = .int .i64 k ∧ ov = .int .i64 o ∧ lv = .int .i64 l ∧ stB C N S o l = true ∧ Cfg1 w C N S K Q wr ∧
    runN C N S K Q o0 l0 zs = (k + (runN C N S K Q o l (zs.drop k)).1, (runN C N S K Q o l (zs.drop k)).2)

theorem refAfter_val {C N S K Q o l n x : Int} (w : World) (h : admE C N S K Q o l n = x) : Calls Try.prog 22 #[.agg #[.int .i64 C, .int .i64 N, .int .i64 S, .int .i64 K, .int .i64 Q], .int .i64 o, .int .i64 l, .int .i64 n] w (Ret (.int .i64 x) w) := by
  rw [← h]; exact refAfter C N S K Q o l n w

set_option maxHeartbeats 2000000 in
theorem refRun_good (C N S K Q o0 l0 : Int) (zs : List Int) (w : World) (zb off cap : Nat) (hz : 0 < zs.length → zb < w.heap.size) (hcell : ∀ i : Nat, i < zs.length → w.cell? ⟨zb, off + i, none⟩ = some (.int .i64 (zs.getD i 0))) (hlen : zs.length ≤ 200)
    (hc : cfgB C N S K Q = true) (hs : stB C N S o0 l0 = true) :
    Calls Try.prog 13 #[.agg #[.int .i64 C, .int .i64 N, .int .i64 S, .int .i64 K, .int .i64 Q], .int .i64 o0, .int .i64 l0, .slice (some ⟨zb, off, none⟩) zs.length cap] w (RunRes C N S K Q o0 l0 zs w) := by
  have H0 := Lib.hid (chkE_ok hc hs)
  have HC := Lib.hid hc
  have HS := Lib.hid hs
  have HZ := Lib.hid hcell
  have HZB := Lib.hid hz
  have hlt : ¬ (200 : Int) < (zs.length : Int) := by omega
  obtain ⟨⟨c1, c2⟩, ⟨n1, n2⟩, ⟨s1, s2⟩, ⟨_, _⟩, _, _⟩ := cfgB_true.1 hc
  obtain ⟨b1, b2⟩ := prod_bounds c1 c2 n1 n2
  clear hc hs hcell hz
  go_enter Try.func13, Try.ntmps13
  go_wp2_with fail
  refine (refChk_val _ H0.out).mono ?_
  rintro e w1 ⟨rfl, hb1⟩
  have G1 := Lib.hid (cfg1_call hb1 cfg1_start)
  clear hb1
  go_wp2_with fail
  go_loopw [1, 2, 11] (fun ov lv i wr => RefRunRel C N S K Q o0 l0 zs w ov lv i wr) (fun _ _ i _ => zs.length - (intOf i).toNat)
  case atStart => exact ⟨0, o0, l0, Nat.zero_le _, rfl, rfl, rfl, HS.out, G1.out, by simp⟩
  case round =>
    obtain ⟨k, o, l, hk, rfl, rfl, rfl, hst, hcfg, hrun⟩ := hrel
    have HR := Lib.hid hrun
    have HT := Lib.hid hst
    have G := Lib.hid hcfg
    obtain ⟨⟨⟨g0, g1, g2, g3, g4⟩, gz⟩, gb⟩ := hcfg
    obtain ⟨⟨o1, o2⟩, l1, l2, l3⟩ := stB_true.1 hst
    clear hrun hst G1
    by_cases hkl : k < zs.length
    · have gzb := Nat.lt_of_lt_of_le (HZB.out (by omega)) gb.size
      have gc : _ := (gb.cell (p := ⟨zb, off + k, none⟩) (HZB.out (by omega))).trans (HZ.out k hkl)
      have hcase := admE_cases C N S K Q o l (zs.getD k 0)
      generalize hx : zs.getD k 0 = x at *
      have HX := Lib.hid hx
      clear hx
      rcases hcase with ha | ha | ha | ha
      · obtain ⟨_, _, a1, a2, a3, a4, a5, a6, A7⟩ := adm_zero ha
        have HA := Lib.hid ha
        have H7 := Lib.hid A7
        clear ha A7
        go_wp2_with fail
        go_still_tail 7, (by kernel_rfl)
        go_wp2_with fail
        refine (refAfter_val _ HA.out).mono ?_
        rintro e w2 ⟨rfl, hb2⟩
        have G2 := Lib.hid (cfg1_call hb2 (cfg1_drew G.out))
        have gc2 : _ := (hb2.cell (p := ⟨zb, off + k, none⟩) gzb).trans gc
        clear hb2 gc g0 g1 g2 g3 g4
        go_wp2_with fail
        have e1 : IntKind.i64.wrap (o + x) = o + x := IntWalk.i64_in _ (by omega)
        have e2 : IntKind.i64.wrap (l - x) = l - x := IntWalk.i64_in _ (by omega)
        go_quiet (fail)
        clear e1 e2
        go_wp2
        exact ⟨⟨k + 1, o + x, l - x, by omega, by go_num, rfl, rfl, H7.out, cfg1_drewN _ G2.out, runRel_next HX.out hkl HR.out HA.out⟩, by simp [intOf]; omega⟩
      all_goals
        have HA := Lib.hid ha
        clear ha
        go_wp2_with fail
        go_still_tail 7, (by kernel_rfl)
        go_wp2_with fail
        refine (refAfter_val _ HA.out).mono ?_
        rintro e w2 ⟨rfl, hb2⟩
        go_wp2
        go_ret2
        have hh := runRes_of (runRel_stop HX.out hkl HR.out (by decide) HA.out) (below_call hb2 gb.drew (Nat.le_refl _))
        exact hh
    · have hke : k = zs.length := by omega
      have HE := Lib.hid hke
      clear hke
      go_wp2
      go_ret2
      have hh := runRes_of (runRel_end HE.out HR.out) gb
      exact hh

set_option maxHeartbeats 400000 in
theorem refRun_nil (C N S K Q o0 l0 : Int) (a : Option Addr) (cap : Nat) (w : World) (hc : cfgB C N S K Q = true) (hs : stB C N S o0 l0 = true) :
    Calls Try.prog 13 #[.agg #[.int .i64 C, .int .i64 N, .int .i64 S, .int .i64 K, .int .i64 Q], .int .i64 o0, .int .i64 l0, .slice a 0 cap] w (RunRes C N S K Q o0 l0 [] w) := by
  have H0 := Lib.hid (chkE_ok hc hs)
  clear hc hs
  go_enter Try.func13, Try.ntmps13
  go_wp2_with (first | (go_at_call 21; refine (refChk_val _ H0.out).mono ?_; rintro e w1 ⟨rfl, hb1⟩))
  refine wp_loop_rounds 1 ?_
  rw [rounds_succ]
  go_wp2
  go_ret2
  exact ⟨rfl, by (repeat (first | exact Below.refl _ _ | (refine below_new ?_ (Nat.le_refl _) _) | (refine below_drewN ?_ _) | (refine Below.drew ?_) | (refine below_call (by assumption) ?_ (Nat.le_refl _)) | (refine below_set ?_ (by simp) _)))⟩

set_option maxHeartbeats 400000 in
theorem refRun_bad (C N S K Q o0 l0 : Int) (a : Option Addr) (len cap : Nat) (w : World) (h : (cfgB C N S K Q && stB C N S o0 l0) = false) :
    Calls Try.prog 13 #[.agg #[.int .i64 C, .int .i64 N, .int .i64 S, .int .i64 K, .int .i64 Q], .int .i64 o0, .int .i64 l0, .slice a len cap] w (Ret (.tuple #[.int .i64 0, .int .i64 7]) w) := by
  have H0 := Lib.hid (chkE_no h)
  clear h
  go_enter Try.func13, Try.ntmps13
  go_wp2_with (first | (go_at_call 21; refine (refChk_val _ H0.out).mono ?_; rintro e w1 ⟨rfl, hb1⟩))
  go_ret2
  exact ⟨rfl, by (repeat (first | exact Below.refl _ _ | (refine below_new ?_ (Nat.le_refl _) _) | (refine below_drewN ?_ _) | (refine Below.drew ?_) | (refine below_call (by assumption) ?_ (Nat.le_refl _)) | (refine below_set ?_ (by simp) _)))⟩

set_option maxHeartbeats 400000 in
theorem refRun_long (C N S K Q o0 l0 : Int) (a : Option Addr) (len cap : Nat) (w : World) (hl : 200 < len) (hc : cfgB C N S K Q = true) (hs : stB C N S o0 l0 = true) :
    Calls Try.prog 13 #[.agg #[.int .i64 C, .int .i64 N, .int .i64 S, .int .i64 K, .int .i64 Q], .int .i64 o0, .int .i64 l0, .slice a len cap] w (Ret (.tuple #[.int .i64 0, .int .i64 3]) w) := by
  have H0 := Lib.hid (chkE_ok hc hs)
  have hl' : (200 : Int) < (len : Int) := by omega
  clear hc hs
  go_enter Try.func13, Try.ntmps13
  go_wp2_with (first | (go_at_call 21; refine (refChk_val _ H0.out).mono ?_; rintro e w1 ⟨rfl, hb1⟩))
  go_ret2
  exact ⟨rfl, by (repeat (first | exact Below.refl _ _ | (refine below_new ?_ (Nat.le_refl _) _) | (refine below_drewN ?_ _) | (refine Below.drew ?_) | (refine below_call (by assumption) ?_ (Nat.le_refl _)) | (refine below_set ?_ (by simp) _)))⟩
theorem refRun_pub (C N S K Q o l : Int) (zs : List Int) (v : Value) (w : World) (hv : IntsAt w v zs) (hlen : zs.length ≤ 200) (hc : cfgB C N S K Q = true) (hs : stB C N S o l = true) :
    Calls Try.prog 13 #[.agg #[.int .i64 C, .int .i64 N, .int .i64 S, .int .i64 K, .int .i64 Q], .int .i64 o, .int .i64 l, v] w (RunRes C N S K Q o l zs w) := by
  rcases hv with ⟨rfl, a, cap, rfl⟩ | ⟨zb, off, cap, rfl, hz, hcell⟩
  · exact refRun_nil C N S K Q o l a cap w hc hs
  · exact refRun_good C N S K Q o l zs w zb off cap hz hcell hlen hc hs
end Go.Proofs.Ytohlaginanbclaa
