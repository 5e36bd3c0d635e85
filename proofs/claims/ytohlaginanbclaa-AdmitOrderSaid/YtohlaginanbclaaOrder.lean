/-
  Every run of AdmitOrder answers true, whatever the config, the state and the number, and leaves what was there as it was: its walk, out of the contracts of the program and of the reference.
-/
import Derived.Test.YtohlaginanbclaaArgs
import Derived.Test.YtohlaginanbclaaPlain4
namespace Go.Proofs.Ytohlaginanbclaa
open Go.ChangeShapes Go.WideShapes Go.ChangeAt Go.RowKit

set_option maxHeartbeats 1000000 in
theorem order_walk_7 (C N S K Q o l n : Int) (w : World) (h : admE C N S K Q o l n = 7) : Calls Try.prog 4 #[.agg #[.int .i64 C, .int .i64 N, .int .i64 S, .int .i64 K, .int .i64 Q], .agg #[.int .i64 o, .int .i64 l], .int .i64 n] w (Ret (.bool true) w) := by
  have H := Lib.hid h
  clear h
  go_enter Try.func4, Try.ntmps4
  go_wp2_with fail
  refine (adm_at 7 0 7 _ H.out rfl rfl).mono ?_
  rintro e w1 ⟨rfl, hb1⟩
  have G1 := Lib.hid (args_call hb1 args_start)
  obtain ⟨q0, q1, q2, q3, q4, q5, q6, qz, qb⟩ := G1.out
  clear hb1
  go_wp2_with fail
  refine (awake_any _).mono ?_
  rintro e w2 ⟨rfl, hb2⟩
  have G2 := Lib.hid (args_call hb2 G1.out)
  obtain ⟨p0, p1, p2, p3, p4, p5, p6, pz, pb⟩ := G2.out
  clear hb2 q0 q1 q2 q3 q4 q5 q6 qz qb
  go_wp2
  go_ret
  exact ⟨rfl, pb⟩

set_option maxHeartbeats 1000000 in
theorem order_walk_11 (C N S K Q o l n : Int) (w : World) (h : admE C N S K Q o l n = 11) : Calls Try.prog 4 #[.agg #[.int .i64 C, .int .i64 N, .int .i64 S, .int .i64 K, .int .i64 Q], .agg #[.int .i64 o, .int .i64 l], .int .i64 n] w (Ret (.bool true) w) := by
  have H := Lib.hid h
  clear h
  go_enter Try.func4, Try.ntmps4
  go_wp2_with fail
  refine (adm_at 11 0 11 _ H.out rfl rfl).mono ?_
  rintro e w1 ⟨rfl, hb1⟩
  have G1 := Lib.hid (args_call hb1 args_start)
  obtain ⟨q0, q1, q2, q3, q4, q5, q6, qz, qb⟩ := G1.out
  clear hb1
  go_wp2_with fail
  refine (awake_any _).mono ?_
  rintro e w2 ⟨rfl, hb2⟩
  have G2 := Lib.hid (args_call hb2 G1.out)
  obtain ⟨p0, p1, p2, p3, p4, p5, p6, pz, pb⟩ := G2.out
  clear hb2 q0 q1 q2 q3 q4 q5 q6 qz qb
  go_wp2
  go_ret
  exact ⟨rfl, pb⟩

set_option maxHeartbeats 1000000 in
theorem order_walk_5 (C N S K Q o l n : Int) (w : World) (h : admE C N S K Q o l n = 5) : Calls Try.prog 4 #[.agg #[.int .i64 C, .int .i64 N, .int .i64 S, .int .i64 K, .int .i64 Q], .agg #[.int .i64 o, .int .i64 l], .int .i64 n] w (Ret (.bool true) w) := by
  have H := Lib.hid h
  clear h
  go_enter Try.func4, Try.ntmps4
  go_wp2_with fail
  refine (adm_at 5 2 0 _ H.out rfl rfl).mono ?_
  rintro e w1 ⟨rfl, hb1⟩
  have G1 := Lib.hid (args_call hb1 args_start)
  obtain ⟨q0, q1, q2, q3, q4, q5, q6, qz, qb⟩ := G1.out
  clear hb1
  go_wp2_with fail
  refine (after_at _ H.out).mono ?_
  rintro e w2 ⟨rfl, hb2⟩
  have G2 := Lib.hid (args_call hb2 G1.out)
  obtain ⟨p0, p1, p2, p3, p4, p5, p6, pz, pb⟩ := G2.out
  clear hb2 q0 q1 q2 q3 q4 q5 q6 qz qb
  go_wp2_with fail
  refine (awake_any _).mono ?_
  rintro e w3 ⟨rfl, hb3⟩
  have G3 := Lib.hid (args_call hb3 G2.out)
  obtain ⟨q0, q1, q2, q3, q4, q5, q6, qz, qb⟩ := G3.out
  clear hb3 p0 p1 p2 p3 p4 p5 p6 pz pb
  go_wp2
  go_ret
  exact ⟨rfl, qb⟩

set_option maxHeartbeats 4000000 in
theorem order_walk_0 (C N S K Q o l n : Int) (w : World) (h : admE C N S K Q o l n = 0) : Calls Try.prog 4 #[.agg #[.int .i64 C, .int .i64 N, .int .i64 S, .int .i64 K, .int .i64 Q], .agg #[.int .i64 o, .int .i64 l], .int .i64 n] w (Ret (.bool true) w) := by
  have H := Lib.hid h
  have HL := Lib.hid (adm_less h)
  have HM := Lib.hid (adm_more h)
  have HF : Hid (∀ k : Int, 1 ≤ k → k ≤ n → admE C N S K Q o l k = 0) := fun k h1 h2 => adm_fewer h h1 h2
  obtain ⟨hcc, hss, a1, a2, a3, a4, _, _, _⟩ := adm_zero h
  obtain ⟨⟨c1, c2⟩, ⟨n1, n2⟩, ⟨_, _⟩, ⟨_, _⟩, _, _⟩ := cfgB_true.1 hcc
  obtain ⟨b1, b2⟩ := prod_bounds c1 c2 n1 n2
  obtain ⟨⟨o1, o2⟩, l1, l2, l3⟩ := stB_true.1 hss
  clear h hcc hss
  go_enter Try.func4, Try.ntmps4
  go_wp2_with fail
  refine (adm_at 0 1 0 _ H.out rfl rfl).mono ?_
  rintro e w1 ⟨rfl, hb1⟩
  have G1 := Lib.hid (args_call hb1 args_start)
  obtain ⟨q0, q1, q2, q3, q4, q5, q6, qz, qb⟩ := G1.out
  clear hb1
  go_wp2_with fail
  refine (after_at _ H.out).mono ?_
  rintro e w2 ⟨rfl, hb2⟩
  have G2 := Lib.hid (args_call hb2 G1.out)
  obtain ⟨p0, p1, p2, p3, p4, p5, p6, pz, pb⟩ := G2.out
  clear hb2 q0 q1 q2 q3 q4 q5 q6 qz qb
  go_wp2_with fail
  clear p0 p1 p2 p3 p4 p5 p6 pz pb
  go_loopw [10] (fun i wr => ∃ k : Int, (1 ≤ k ∧ k ≤ n) ∧ i = .int .i64 k ∧ Hid (Args w C N S K Q o l wr)) (fun i _ => (n - intOf i).toNat)
  case atStart => exact ⟨1, ⟨by omega, a1⟩, rfl, G2⟩
  case round =>
    obtain ⟨k, ⟨k1, k2⟩, rfl, G3⟩ := hrel
    obtain ⟨q0, q1, q2, q3, q4, q5, q6, qz, qb⟩ := G3.out
    clear G1 G2
    by_cases hk : k < n
    · have HK : Hid (admE C N S K Q o l k = 0) := HF.out k k1 (by omega)
      go_wp2_with fail
      refine (adm_at 0 1 0 _ HK.out rfl rfl).mono ?_
      rintro e w4 ⟨rfl, hb4⟩
      have G4 := Lib.hid (args_call hb4 G3.out)
      go_wp2
      exact ⟨⟨k + 1, ⟨by omega, by omega⟩, rfl, G4⟩, by simp [intOf]; omega⟩
    · go_wp2_with fail
      rcases HL.out with hl | hl
      all_goals
        have HA := Lib.hid hl
        clear hl
        first | (refine (adm_at 0 1 0 _ HA.out rfl rfl).mono ?_) | (refine (adm_at 7 0 7 _ HA.out rfl rfl).mono ?_)
        rintro e w4 ⟨rfl, hb4⟩
        have G4 := Lib.hid (args_call hb4 G3.out)
        obtain ⟨p0, p1, p2, p3, p4, p5, p6, pz, pb⟩ := G4.out
        clear hb4
        go_wp2_with fail
        rcases HM.out with hl | hl
        all_goals
          have HB := Lib.hid hl
          clear hl
          first | (refine (adm_at 0 1 0 _ HB.out rfl rfl).mono ?_) | (refine (adm_at 7 0 7 _ HB.out rfl rfl).mono ?_)
          rintro e w5 ⟨rfl, hb5⟩
          have G5 := Lib.hid (args_call hb5 G4.out)
          clear hb5
          go_wp2_with fail
          refine (awake_any _).mono ?_
          rintro e w6 ⟨rfl, hb6⟩
          have G6 := Lib.hid (args_call hb6 G5.out)
          clear hb6
          go_wp2
          go_ret
          exact ⟨rfl, args_below G6.out⟩

theorem order_walk (C N S K Q o l n : Int) (w : World) : Calls Try.prog 4 #[.agg #[.int .i64 C, .int .i64 N, .int .i64 S, .int .i64 K, .int .i64 Q], .agg #[.int .i64 o, .int .i64 l], .int .i64 n] w (Ret (.bool true) w) := by
  rcases admE_cases C N S K Q o l n with h | h | h | h
  · exact order_walk_0 C N S K Q o l n w h
  · exact order_walk_5 C N S K Q o l n w h
  · exact order_walk_7 C N S K Q o l n w h
  · exact order_walk_11 C N S K Q o l n w h

set_option maxRecDepth 100000 in
theorem admitOrder_lifted (os : Os) (started : os.Started) (H : Type) (enc : TypeId × Value → H) :
    ReturnsInHanded {} Try.checked os 4 .any (Rows.admitOrderSpec.pre6 enc Try.prog Try.f4 Rows.admitOrderRow.domain false) (Rows.admitOrderSpec.post enc Try.prog Try.f4 false true false false) := by
  refine returnsInHanded_of_change (C := Try.checked) own started (by kernel_rfl) Try.func4
    (ChangeSpec.witness6 (enc := enc) (C := Try.checked) false ⟨#[], #[.agg #[.int .i64 0, .int .i64 0, .int .i64 0, .int .i64 0, .int .i64 0], .agg #[.int .i64 0, .int .i64 0], .int .i64 0], []⟩ 8 (by kernel_rfl) (by kernel_rfl) (by kernel_rfl) (by kernel_rfl)) ?_
  intro W base args ds gs before hval0 hW hcnd _
  have hval : ∀ (j : Nat) t v, Try.f4.params[j]? = some t → args[j]? = some v → Value.okWide Try.prog W .any base t v := hval0
  have hW' := hW
  obtain ⟨p, q, hA0, hV, rfl, hfz, hnd⟩ := hW
  have hA : DataW.TrodAll enc Try.prog W 0 (fun _ => true) true Try.f4.params.toList args.toList ds p := hA0
  obtain ⟨rfl, rfl⟩ := trodVars_none hV
  obtain ⟨v0, v1, v2, d0, d1, d2, p0, p1, p2, rfl, rfl, t0, t1, t2, k0, k1, k2⟩ := law3 Try.params4 hA hval
  obtain ⟨C, N, S, K, Q, rfl⟩ := open_cfg k0 t0
  obtain ⟨o, l, rfl⟩ := open_st k1 t1
  obtain ⟨n, rfl⟩ := open_num k2 t2
  refine (order_walk C N S K Q o l n W).mono fun e W' ⟨he, hb⟩ => ?_
  subst he
  exact ⟨_, rfl, law_post laidOut (by kernel_rfl) rfl (by kernel_rfl) Try.underlying4 hW' rfl rfl rfl hb⟩

theorem admitOrder_over : Rows.admitOrderRow.holds Try.pinned (OpenSpec.ofChange Rows.admitOrderSpec) :=
  OpenClaim.holds_of_wide 4 Try.f4 rfl rfl rfl rfl rfl rfl rfl ⟨rfl, rfl, rfl, rfl, rfl⟩ rfl rfl rfl rfl rfl (by kernel_rfl) Try.func4 (by kernel_rfl)
    (of_decide_eq_true (by kernel_rfl)) (by unfold Func.isWrapper; first | (rw [if_pos (by decide +kernel)]; kernel_rfl) | (rw [if_neg (by decide +kernel)]; exact ⟨rfl, rfl⟩))
    (fun os started H enc _ => admitOrder_lifted os started H enc)

theorem admitOrder_holds : Rows.AdmitOrderSaid := admitOrder_over
#print axioms admitOrder_holds
end Go.Proofs.Ytohlaginanbclaa
