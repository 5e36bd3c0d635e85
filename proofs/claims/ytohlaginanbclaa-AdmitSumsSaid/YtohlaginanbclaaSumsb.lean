/-
  Every run of AdmitSums answers true, whatever the config, the state and the list, and leaves what was there as it was: its walk, out of the contracts of the program and of the reference.
-/
import Derived.Test.YtohlaginanbclaaSums
import Derived.Outline
namespace Go.Proofs.Ytohlaginanbclaa
open Go.ChangeShapes Go.WideShapes Go.ChangeAt Go.RowKit

set_option maxRecDepth 100000 in
set_option maxHeartbeats 4000000 in
theorem sums_nil_none (C N S K Q o l : Int) (w : World) (hc : cfgB C N S K Q = true) (hs : stB C N S o l = true) : Calls Try.prog 7 #[.agg #[.int .i64 C, .int .i64 N, .int .i64 S, .int .i64 K, .int .i64 Q], .agg #[.int .i64 o, .int .i64 l], .slice none 0 0] w (Ret (.bool true) w) := by
  have HR : Hid (runX C N S K Q o l [] = (0, 0)) := runX_ok (d := 0) hc hs (by simp) rfl
  obtain ⟨⟨c1, c2⟩, ⟨n1, n2⟩, ⟨s1, s2⟩, ⟨_, _⟩, _, _⟩ := cfgB_true.1 hc
  obtain ⟨b1, b2⟩ := prod_bounds c1 c2 n1 n2
  obtain ⟨⟨o1, o2⟩, l1, l2, l3⟩ := stB_true.1 hs
  have H0 := Lib.hid (chkE_ok hc hs)
  have HC := Lib.hid hc
  have ho : (cfgB C N S K Q && occB C N S o) = true := by rw [hc, occ_of_st hs]; rfl
  have HO := Lib.hid (occE_ok ho)
  have HK : Hid (slackN C N S K Q o = slk C N o) := by unfold slackN; rw [ho]; rfl
  have hsl := slk_nonneg C N o
  clear hc hs ho
  have hs1 : ¬ slk C N o < 0 := by omega
  have hs2 : ¬ l < 0 := by omega
  go_enter Try.func7, Try.ntmps7
  go_wp2_with fail
  refine (run_at (zs := []) _ (.inl ⟨rfl, _, _, rfl⟩) HR.out).mono ?_
  rintro e w1 ⟨rfl, hb1⟩
  have G1 := Lib.hid (args_call hb1 args_start)
  obtain ⟨q0, q1, q2, q3, q4, q5, q6, qz, qb⟩ := G1.out
  clear hb1
  go_wp2_with fail
  refine (check_at _ H0.out).mono ?_
  rintro e w2 ⟨rfl, hb2⟩
  have G2 := Lib.hid (args_call hb2 G1.out)
  obtain ⟨p0, p1, p2, p3, p4, p5, p6, pz, pb⟩ := G2.out
  clear hb2 q0 q1 q2 q3 q4 q5 q6 qz qb
  go_wp2_with fail
  refine (slack_at _ HK.out HO.out).mono ?_
  rintro e w3 ⟨rfl, hb3⟩
  have G3 := Lib.hid (args_call hb3 G2.out)
  obtain ⟨q0, q1, q2, q3, q4, q5, q6, qz, qb⟩ := G3.out
  clear hb3 p0 p1 p2 p3 p4 p5 p6 pz pb
  go_wp2_with fail
  have HT3 := G3
  clear G1 G2 G3
  refine wp_loop_rounds 1 ?_
  rw [rounds_succ]
  go_wp2_with fail
  go_quiet (fail)
  go_wp2_with fail
  refine wp_loop_rounds 1 ?_
  rw [rounds_succ]
  go_wp2_with fail
  have e1 : IntKind.i64.wrap o = o := IntWalk.i64_in _ (by omega)
  have e2 : IntKind.i64.wrap l = l := IntWalk.i64_in _ (by omega)
  have HT := args_drewN nq HT3.out
  go_region_held3 (fun w' => w'.cell? ⟨w.heap.size, 0, none⟩ = some (.int .i64 C) ∧ w'.cell? ⟨w.heap.size, 1, none⟩ = some (.int .i64 N) ∧ w'.cell? ⟨w.heap.size, 2, none⟩ = some (.int .i64 S) ∧ w'.cell? ⟨w.heap.size, 3, none⟩ = some (.int .i64 K) ∧ w'.cell? ⟨w.heap.size, 4, none⟩ = some (.int .i64 Q) ∧ w'.cell? ⟨w.heap.size + 1, 0, none⟩ = some (.int .i64 o) ∧ w'.cell? ⟨w.heap.size + 1, 1, none⟩ = some (.int .i64 l) ∧ w.heap.size + 1 < w'.heap.size ∧ Below w.heap.size w w') (first | exact args_drew HT | exact args_drewN _ HT3.out | exact args_call (by with_reducible assumption) (args_drewN _ HT3.out) | exact args_call (by with_reducible assumption) (by with_reducible assumption))
    (first | (go_at_call 12; refine (run_at (zs := []) _ (.inl ⟨rfl, _, _, rfl⟩) HR.out).mono ?_; rintro e w4 ⟨rfl, hb4⟩))
  have R4 : Args w C N S K Q o l w4 := by with_reducible assumption
  go_wp2_with fail
  refine (awake_any _).mono ?_
  rintro e w5 ⟨rfl, hb5⟩
  go_wp2
  go_ret
  exact ⟨rfl, below_call hb5 (args_below R4) (Nat.le_refl _)⟩

set_option maxRecDepth 100000 in
set_option maxHeartbeats 4000000 in
theorem sums_nil_some (C N S K Q o l : Int) (a : Addr) (cap : Nat) (w : World) (hc : cfgB C N S K Q = true) (hs : stB C N S o l = true) : Calls Try.prog 7 #[.agg #[.int .i64 C, .int .i64 N, .int .i64 S, .int .i64 K, .int .i64 Q], .agg #[.int .i64 o, .int .i64 l], .slice (some a) 0 cap] w (Ret (.bool true) w) := by
  have HR : Hid (runX C N S K Q o l [] = (0, 0)) := runX_ok (d := 0) hc hs (by simp) rfl
  obtain ⟨⟨c1, c2⟩, ⟨n1, n2⟩, ⟨s1, s2⟩, ⟨_, _⟩, _, _⟩ := cfgB_true.1 hc
  obtain ⟨b1, b2⟩ := prod_bounds c1 c2 n1 n2
  obtain ⟨⟨o1, o2⟩, l1, l2, l3⟩ := stB_true.1 hs
  have H0 := Lib.hid (chkE_ok hc hs)
  have HC := Lib.hid hc
  have ho : (cfgB C N S K Q && occB C N S o) = true := by rw [hc, occ_of_st hs]; rfl
  have HO := Lib.hid (occE_ok ho)
  have HK : Hid (slackN C N S K Q o = slk C N o) := by unfold slackN; rw [ho]; rfl
  have hsl := slk_nonneg C N o
  clear hc hs ho
  have hs1 : ¬ slk C N o < 0 := by omega
  have hs2 : ¬ l < 0 := by omega
  go_enter Try.func7, Try.ntmps7
  go_wp2_with fail
  refine (run_at (zs := []) _ (.inl ⟨rfl, _, _, rfl⟩) HR.out).mono ?_
  rintro e w1 ⟨rfl, hb1⟩
  have G1 := Lib.hid (args_call hb1 args_start)
  obtain ⟨q0, q1, q2, q3, q4, q5, q6, qz, qb⟩ := G1.out
  clear hb1
  go_wp2_with fail
  refine (check_at _ H0.out).mono ?_
  rintro e w2 ⟨rfl, hb2⟩
  have G2 := Lib.hid (args_call hb2 G1.out)
  obtain ⟨p0, p1, p2, p3, p4, p5, p6, pz, pb⟩ := G2.out
  clear hb2 q0 q1 q2 q3 q4 q5 q6 qz qb
  go_wp2_with fail
  refine (slack_at _ HK.out HO.out).mono ?_
  rintro e w3 ⟨rfl, hb3⟩
  have G3 := Lib.hid (args_call hb3 G2.out)
  obtain ⟨q0, q1, q2, q3, q4, q5, q6, qz, qb⟩ := G3.out
  clear hb3 p0 p1 p2 p3 p4 p5 p6 pz pb
  go_wp2_with fail
  have HT3 := G3
  clear G1 G2 G3
  refine wp_loop_rounds 1 ?_
  rw [rounds_succ]
  go_wp2_with fail
  go_quiet (fail)
  go_wp2_with fail
  refine wp_loop_rounds 1 ?_
  rw [rounds_succ]
  go_wp2_with fail
  have e1 : IntKind.i64.wrap o = o := IntWalk.i64_in _ (by omega)
  have e2 : IntKind.i64.wrap l = l := IntWalk.i64_in _ (by omega)
  have HT := args_drewN nq HT3.out
  go_region_held3 (fun w' => w'.cell? ⟨w.heap.size, 0, none⟩ = some (.int .i64 C) ∧ w'.cell? ⟨w.heap.size, 1, none⟩ = some (.int .i64 N) ∧ w'.cell? ⟨w.heap.size, 2, none⟩ = some (.int .i64 S) ∧ w'.cell? ⟨w.heap.size, 3, none⟩ = some (.int .i64 K) ∧ w'.cell? ⟨w.heap.size, 4, none⟩ = some (.int .i64 Q) ∧ w'.cell? ⟨w.heap.size + 1, 0, none⟩ = some (.int .i64 o) ∧ w'.cell? ⟨w.heap.size + 1, 1, none⟩ = some (.int .i64 l) ∧ w.heap.size + 1 < w'.heap.size ∧ Below w.heap.size w w') (first | exact args_drew HT | exact args_drewN _ HT3.out | exact args_call (by with_reducible assumption) (args_drewN _ HT3.out) | exact args_call (by with_reducible assumption) (by with_reducible assumption))
    (first | (go_at_call 12; refine (run_at (zs := []) _ (.inl ⟨rfl, _, _, rfl⟩) HR.out).mono ?_; rintro e w4 ⟨rfl, hb4⟩))
  have R4 : Args w C N S K Q o l w4 := by with_reducible assumption
  go_wp2_with fail
  refine (awake_any _).mono ?_
  rintro e w5 ⟨rfl, hb5⟩
  go_wp2
  go_ret
  exact ⟨rfl, below_call hb5 (args_below R4) (Nat.le_refl _)⟩

theorem sums_walk (C N S K Q o l : Int) (zs : List Int) (v : Value) (w : World) (h3 : Ints3 w v zs) : Calls Try.prog 7 #[.agg #[.int .i64 C, .int .i64 N, .int .i64 S, .int .i64 K, .int .i64 Q], .agg #[.int .i64 o, .int .i64 l], v] w (Ret (.bool true) w) := by
  have hv := ints3_at h3
  by_cases hl : 60 < zs.length
  · obtain ⟨a, cap, rfl⟩ := ints_slice hv
    exact sums_walk_far C N S K Q o l zs a cap w hl
  · cases hcs : (cfgB C N S K Q && stB C N S o l)
    · obtain ⟨a, cap, rfl⟩ := ints_slice hv
      exact sums_walk_bad C N S K Q o l zs a cap w hv hl hcs
    · rw [Bool.and_eq_true] at hcs
      obtain ⟨hc, hs⟩ := hcs
      rcases h3 with ⟨rfl, rfl⟩ | ⟨rfl, a, cap, rfl⟩ | ⟨hp, zb, off, cap, rfl, hcap, hz, hcell⟩
      · exact sums_nil_none C N S K Q o l w hc hs
      · exact sums_nil_some C N S K Q o l a cap w hc hs
      · have R := run_sum (C := C) (N := N) (S := S) (K := K) (Q := Q) zs o l hs
        have hr := runX_ok (e := (runN C N S K Q o l zs).2) (d := (runN C N S K Q o l zs).1) hc hs (by omega) rfl
        generalize (runN C N S K Q o l zs).1 = d at *
        rcases runN_cases C N S K Q zs o l with he | he | he | he
        all_goals rw [he] at R hr
        · exact sums_main_0 C N S K Q o l zs d zb off cap w hz hcell hcap hp (by omega) hc hs hr R
        · by_cases hy : smTo zs d + zs.getD d 0 ≤ l
          · exact sums_main_5a C N S K Q o l zs d zb off cap w hz hcell hcap hp (by omega) hc hs hr R hy
          · exact sums_main_5b C N S K Q o l zs d zb off cap w hz hcell hcap hp (by omega) hc hs hr R hy
        · exact sums_main_7 C N S K Q o l zs d zb off cap w hz hcell hcap hp (by omega) hc hs hr R
        · exact sums_main_11 C N S K Q o l zs d zb off cap w hz hcell hcap hp (by omega) hc hs hr R

set_option maxRecDepth 100000 in
theorem admitSums_lifted (os : Os) (started : os.Started) (H : Type) (enc : TypeId × Value → H) :
    ReturnsInHanded {} Try.checked os 7 .any (Rows.admitSumsSpec.pre6 enc Try.prog Try.f7 Rows.admitSumsRow.domain false) (Rows.admitSumsSpec.post enc Try.prog Try.f7 false true false false) := by
  refine returnsInHanded_of_change (C := Try.checked) own started (by kernel_rfl) Try.func7
    (ChangeSpec.witness6 (enc := enc) (C := Try.checked) false ⟨#[], #[.agg #[.int .i64 0, .int .i64 0, .int .i64 0, .int .i64 0, .int .i64 0], .agg #[.int .i64 0, .int .i64 0], .slice none 0 0], []⟩ 8 (by kernel_rfl) (by kernel_rfl) (by kernel_rfl) (by kernel_rfl)) ?_
  intro W base args ds gs before hval0 hW hcnd _
  have hval : ∀ (j : Nat) t v, Try.f7.params[j]? = some t → args[j]? = some v → Value.okWide Try.prog W .any base t v := hval0
  have hW' := hW
  obtain ⟨p, q, hA0, hV, rfl, hfz, hnd⟩ := hW
  have hA : DataW.TrodAll enc Try.prog W 0 (fun _ => true) true Try.f7.params.toList args.toList ds p := hA0
  obtain ⟨rfl, rfl⟩ := trodVars_none hV
  obtain ⟨v0, v1, v2, d0, d1, d2, p0, p1, p2, rfl, rfl, t0, t1, t2, k0, k1, k2⟩ := law3 Try.params7 hA hval
  obtain ⟨C, N, S, K, Q, rfl⟩ := open_cfg k0 t0
  obtain ⟨o, l, rfl⟩ := open_st k1 t1
  obtain ⟨zs, hzs⟩ := open_list3 k2 t2
  refine (sums_walk C N S K Q o l zs _ W hzs).mono fun e W' ⟨he, hb⟩ => ?_
  subst he
  exact ⟨_, rfl, law_post laidOut (by kernel_rfl) rfl (by kernel_rfl) Try.underlying4 hW' rfl rfl rfl hb⟩

theorem admitSums_over : Rows.admitSumsRow.holds Try.pinned (OpenSpec.ofChange Rows.admitSumsSpec) :=
  OpenClaim.holds_of_wide 7 Try.f7 rfl rfl rfl rfl rfl rfl rfl ⟨rfl, rfl, rfl, rfl, rfl⟩ rfl rfl rfl rfl rfl (by kernel_rfl) Try.func7 (by kernel_rfl)
    (of_decide_eq_true (by kernel_rfl)) (by unfold Func.isWrapper; first | (rw [if_pos (by decide +kernel)]; kernel_rfl) | (rw [if_neg (by decide +kernel)]; exact ⟨rfl, rfl⟩))
    (fun os started H enc _ => admitSums_lifted os started H enc)

theorem admitSums_holds : Rows.AdmitSumsSaid := admitSums_over
#print axioms admitSums_holds
end Go.Proofs.Ytohlaginanbclaa
