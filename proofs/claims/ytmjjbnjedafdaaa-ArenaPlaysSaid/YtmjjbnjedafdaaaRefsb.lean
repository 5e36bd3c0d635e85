/-
  Walks of the reference of the layer arena: Get, Set, Copy, Clear, Zero.
-/
import Derived.Test.YtmjjbnjedafdaaaRefs
namespace Go.Proofs.Ytmjjbnjedafdaaa
open Go.RowKit

set_option maxHeartbeats 400000 in
theorem rget_c (zs : List Int) (a x : Int) (v : Value) (w : World) (hv : Words w v zs) (hx : x ≠ 0) (h : chkA zs = x) : Calls Try.prog 31 #[v, .int .i64 a] w (fun e w' => e = .returned (.tuple #[.int .u64 0, .int .i64 x]) ∧ w = w') := by
  have HV := Lib.hid hv
  have H := Lib.hid h
  have t1 : (x != 0) = true := by simpa using hx
  have t2 : (x == 0) = false := by simpa using hx
  clear hv h hx
  go_enter Try.func31, Try.ntmps31
  go_wp2_with (first | (go_at_call 30; refine (rcheck_val _ HV.out H.out).mono ?_; rintro e w1 ⟨rfl, rfl⟩))
  go_ret2
  exact ⟨rfl, rfl⟩

set_option maxHeartbeats 400000 in
theorem rget_p (zs : List Int) (a : Int) (s : Option Addr) (cap : Nat) (w : World) (hv : Words w (.slice s zs.length cap) zs) (h : chkA zs = 0) (h0 : partB zs.length a 1 = false) : Calls Try.prog 31 #[.slice s zs.length cap, .int .i64 a] w (fun e w' => e = .returned (.tuple #[.int .u64 0, .int .i64 7]) ∧ w = w') := by
  have HV := Lib.hid hv
  have H := Lib.hid h
  obtain ⟨l1, l2, _⟩ := chk_ok h
  have HP0 := Lib.hid h0
  clear hv h h0
  go_enter Try.func31, Try.ntmps31
  go_wp2_with fail
  refine (rcheck_val _ HV.out H.out).mono ?_
  rintro e w1 ⟨rfl, rfl⟩
  go_wp2_with fail
  refine (rpart_val _ l2 HP0.out).mono ?_
  rintro e w1 ⟨rfl, rfl⟩
  go_wp2
  go_ret2
  exact ⟨rfl, rfl⟩

set_option maxHeartbeats 400000 in
theorem rget_y (zs : List Int) (a zb off cap : Nat) (w : World) (hv : Words w (.slice (some ⟨zb, off, none⟩) zs.length cap) zs) (h : chkA zs = 0) (h0 : partB zs.length a 1 = true) (hc : ∀ i : Nat, i < zs.length → w.cell? ⟨zb, off + i, none⟩ = some (.int .u64 (zs.getD i 0))) : Calls Try.prog 31 #[.slice (some ⟨zb, off, none⟩) zs.length cap, .int .i64 a] w fun e w' => e = .returned (.tuple #[.int .u64 (zs.getD a 0), .int .i64 0]) ∧ w = w' := by
  have HV := Lib.hid hv
  have H := Lib.hid h
  obtain ⟨l1, l2, _⟩ := chk_ok h
  have HP := Lib.hid h0
  obtain ⟨p1, p2, _, p4⟩ := partB_true.1 h0
  have gc := hc a (by omega)
  have i1 : a < zs.length := by omega
  clear hv h h0 hc
  generalize zs.getD a 0 = x at *
  go_enter Try.func31, Try.ntmps31
  go_wp2_with fail
  refine (rcheck_val _ HV.out H.out).mono ?_
  rintro e w1 ⟨rfl, rfl⟩
  go_wp2_with fail
  refine (rpart_val _ l2 HP.out).mono ?_
  rintro e w1 ⟨rfl, rfl⟩
  go_wp2
  go_ret2
  exact ⟨rfl, rfl⟩
theorem rget_any (zs : List Int) (a : Int) (v : Value) (w : World) (hv : Words w v zs) : Calls Try.prog 31 #[v, .int .i64 a] w fun e w' => e = .returned (.tuple #[.int .u64 (getR zs a).1, .int .i64 (getR zs a).2]) ∧ w = w' := by
  unfold getR
  by_cases hc : chkA zs = 0
  · rw [if_neg (by simpa using hc)]
    obtain ⟨l1, l2, l3⟩ := chk_ok hc
    obtain ⟨zb, off, cap, rfl, h1, h2, h3⟩ := words_some hv l1
    cases hp : partB zs.length a 1
    · rw [if_neg (by decide)]; exact rget_p zs a _ _ w hv hc hp
    · rw [if_pos rfl]
      obtain ⟨p1, _, _, _⟩ := partB_true.1 hp
      obtain ⟨a, rfl⟩ := Int.eq_ofNat_of_zero_le (show 0 ≤ a by omega)
      rw [Int.toNat_natCast]
      exact rget_y zs a zb off cap w hv hc hp h3
  · rw [if_pos (by simpa using hc)]; exact rget_c zs a _ v w hv hc rfl

set_option maxHeartbeats 400000 in
theorem rset_c (zs : List Int) (a u x : Int) (v : Value) (w : World) (hv : Words w v zs) (hx : x ≠ 0) (h : chkA zs = x) : Calls Try.prog 32 #[v, .int .i64 a, .int .u64 u] w (OnePost ⟨[], [], 0, 0, 0, x⟩ w) := by
  have HV := Lib.hid hv
  have H := Lib.hid h
  have t1 : (x != 0) = true := by simpa using hx
  have t2 : (x == 0) = false := by simpa using hx
  clear hv h hx
  go_enter Try.func32, Try.ntmps32
  go_wp2_with (first | (go_at_call 30; refine (rcheck_val _ HV.out H.out).mono ?_; rintro e w1 ⟨rfl, rfl⟩))
  go_ret2
  exact ⟨_, rfl, own_nil _ _, Below.refl _ _⟩

set_option maxHeartbeats 400000 in
theorem rset_p (zs : List Int) (a u : Int) (s : Option Addr) (cap : Nat) (w : World) (hv : Words w (.slice s zs.length cap) zs) (h : chkA zs = 0) (h0 : partB zs.length a 1 = false) : Calls Try.prog 32 #[.slice s zs.length cap, .int .i64 a, .int .u64 u] w (OnePost ⟨[], [], 0, 0, 0, 7⟩ w) := by
  have HV := Lib.hid hv
  have H := Lib.hid h
  obtain ⟨l1, l2, _⟩ := chk_ok h
  have HP0 := Lib.hid h0
  clear hv h h0
  go_enter Try.func32, Try.ntmps32
  go_wp2_with fail
  refine (rcheck_val _ HV.out H.out).mono ?_
  rintro e w1 ⟨rfl, rfl⟩
  go_wp2_with fail
  refine (rpart_val _ l2 HP0.out).mono ?_
  rintro e w1 ⟨rfl, rfl⟩
  go_wp2
  go_ret2
  exact ⟨_, rfl, own_nil _ _, Below.refl _ _⟩

set_option maxHeartbeats 2000000 in
theorem rset_y (zs : List Int) (a zb off cap : Nat) (u : Int) (w : World) (hv : Words w (.slice (some ⟨zb, off, none⟩) zs.length cap) zs) (h : chkA zs = 0) (h0 : partB zs.length a 1 = true) (hz : zb < w.heap.size) (hc : ∀ i : Nat, i < zs.length → w.cell? ⟨zb, off + i, none⟩ = some (.int .u64 (zs.getD i 0))) : Calls Try.prog 32 #[.slice (some ⟨zb, off, none⟩) zs.length cap, .int .i64 a, .int .u64 u] w (OnePost ⟨zs.set a u, [], 0, 0, 0, 0⟩ w) := by
  have HV := Lib.hid hv
  have H := Lib.hid h
  obtain ⟨l1, l2, _⟩ := chk_ok h
  have HP0 := Lib.hid h0
  obtain ⟨p1, p2, _, p4⟩ := partB_true.1 h0
  have i1 : a < zs.length := by omega
  obtain ⟨g, rest, W, hrun, hmax, hrow⟩ := clone_run zs zb off cap w (by omega) (by omega) hz hc
  have HR := Lib.hid hrun
  have HM := Lib.hid hmax
  have RW := Lib.hid hrow
  have HCC := Lib.hid hc
  clear hv h hc hrun hmax hrow h0
  go_enter Try.func32, Try.ntmps32
  go_wp2_with fail
  refine (rcheck_val _ HV.out H.out).mono ?_
  rintro e w1 ⟨rfl, rfl⟩
  go_wp2_with fail
  refine (rpart_val _ l2 HP0.out).mono ?_
  rintro e w1 ⟨rfl, rfl⟩
  obtain ⟨c1, c2, c3⟩ := row_cell RW.out i1
  go_wp2_with (at_builtin; refine wpList_app rfl (.tmp 23) (.tmp 24) rfl rfl rfl rfl HR.out ?_)
  go_ret2
  have q := row_own (row_set RW.out i1 u) (by rw [List.length_set]; exact HM.out)
  rw [List.length_set] at q
  exact ⟨_, rfl, q, (row_set RW.out i1 u).2.1⟩

set_option maxHeartbeats 400000 in
theorem rcopy_c (zs : List Int) (a b n x : Int) (v : Value) (w : World) (hv : Words w v zs) (hx : x ≠ 0) (h : chkA zs = x) : Calls Try.prog 19 #[v, .int .i64 a, .int .i64 b, .int .i64 n] w (OnePost ⟨[], [], 0, 0, 0, x⟩ w) := by
  have HV := Lib.hid hv
  have H := Lib.hid h
  have t1 : (x != 0) = true := by simpa using hx
  have t2 : (x == 0) = false := by simpa using hx
  clear hv h hx
  go_enter Try.func19, Try.ntmps19
  go_wp2_with (first | (go_at_call 30; refine (rcheck_val _ HV.out H.out).mono ?_; rintro e w1 ⟨rfl, rfl⟩))
  go_ret2
  exact ⟨_, rfl, own_nil _ _, Below.refl _ _⟩

set_option maxHeartbeats 400000 in
theorem rcopy_p (zs : List Int) (a b n : Int) (s : Option Addr) (cap : Nat) (w : World) (hv : Words w (.slice s zs.length cap) zs) (h : chkA zs = 0) (h0 : partB zs.length a n = false) : Calls Try.prog 19 #[.slice s zs.length cap, .int .i64 a, .int .i64 b, .int .i64 n] w (OnePost ⟨[], [], 0, 0, 0, 7⟩ w) := by
  have HV := Lib.hid hv
  have H := Lib.hid h
  obtain ⟨l1, l2, _⟩ := chk_ok h
  have HP0 := Lib.hid h0
  clear hv h h0
  go_enter Try.func19, Try.ntmps19
  go_wp2_with fail
  refine (rcheck_val _ HV.out H.out).mono ?_
  rintro e w1 ⟨rfl, rfl⟩
  go_wp2_with fail
  refine (rpart_val _ l2 HP0.out).mono ?_
  rintro e w1 ⟨rfl, rfl⟩
  go_wp2
  go_ret2
  exact ⟨_, rfl, own_nil _ _, Below.refl _ _⟩

set_option maxHeartbeats 400000 in
theorem rcopy_q (zs : List Int) (a b n : Int) (s : Option Addr) (cap : Nat) (w : World) (hv : Words w (.slice s zs.length cap) zs) (h : chkA zs = 0) (h0 : partB zs.length a n = true) (h1 : partB zs.length b n = false) : Calls Try.prog 19 #[.slice s zs.length cap, .int .i64 a, .int .i64 b, .int .i64 n] w (OnePost ⟨[], [], 0, 0, 0, 7⟩ w) := by
  have HV := Lib.hid hv
  have H := Lib.hid h
  obtain ⟨l1, l2, _⟩ := chk_ok h
  have HP0 := Lib.hid h0
  have HP1 := Lib.hid h1
  clear hv h h0 h1
  go_enter Try.func19, Try.ntmps19
  go_wp2_with fail
  refine (rcheck_val _ HV.out H.out).mono ?_
  rintro e w1 ⟨rfl, rfl⟩
  go_wp2_with fail
  refine (rpart_val _ l2 HP0.out).mono ?_
  rintro e w1 ⟨rfl, rfl⟩
  go_wp2_with fail
  refine (rpart_val _ l2 HP1.out).mono ?_
  rintro e w1 ⟨rfl, rfl⟩
  go_wp2
  go_ret2
  exact ⟨_, rfl, own_nil _ _, Below.refl _ _⟩

set_option maxHeartbeats 2000000 in
theorem rcopy_y (zs : List Int) (a b n zb off cap : Nat) (w : World) (hv : Words w (.slice (some ⟨zb, off, none⟩) zs.length cap) zs) (h : chkA zs = 0) (h0 : partB zs.length a n = true) (h1 : partB zs.length b n = true) (hz : zb < w.heap.size) (hc : ∀ i : Nat, i < zs.length → w.cell? ⟨zb, off + i, none⟩ = some (.int .u64 (zs.getD i 0))) : Calls Try.prog 19 #[.slice (some ⟨zb, off, none⟩) zs.length cap, .int .i64 a, .int .i64 b, .int .i64 n] w (OnePost ⟨splice zs b (cut zs a n), [], 0, 0, 0, 0⟩ w) := by
  have HV := Lib.hid hv
  have H := Lib.hid h
  obtain ⟨l1, l2, _⟩ := chk_ok h
  have HP0 := Lib.hid h0
  have HP1 := Lib.hid h1
  obtain ⟨p1, p2, _, p4⟩ := partB_true.1 h0
  obtain ⟨q1, q2, _, q4⟩ := partB_true.1 h1
  have HCL := Lib.hid (cut_length zs a n (by omega))
  obtain ⟨g, rest, W, hrun, hmax, hrow⟩ := clone_run zs zb off cap w (by omega) (by omega) hz hc
  have HR := Lib.hid hrun
  have HM := Lib.hid hmax
  have RW := Lib.hid hrow
  have HCC := Lib.hid hc
  clear hv h hc hrun hmax hrow h0 h1
  go_enter Try.func19, Try.ntmps19
  go_wp2_with fail
  refine (rcheck_val _ HV.out H.out).mono ?_
  rintro e w1 ⟨rfl, rfl⟩
  go_wp2_with fail
  refine (rpart_val _ l2 HP0.out).mono ?_
  rintro e w1 ⟨rfl, rfl⟩
  go_wp2_with fail
  refine (rpart_val _ l2 HP1.out).mono ?_
  rintro e w1 ⟨rfl, rfl⟩
  go_wp2_with (at_builtin; refine wpList_app rfl (.tmp 34) (.tmp 35) rfl rfl rfl rfl HR.out ?_)
  go_loopw [12] (fun i wr => ∃ j : Nat, j ≤ n ∧ i = .int .i64 j ∧ Row w g rest (splice zs b ((cut zs a n).take j)) wr) (fun i _ => n - (intOf i).toNat)
  case atStart => exact ⟨0, Nat.zero_le _, rfl, by rw [List.take_zero, splice_nil]; exact RW.out⟩
  case round =>
    obtain ⟨j, hj, rfl, hrw⟩ := hrel
    have RJ := Lib.hid hrw
    have LN : Hid ((splice zs b ((cut zs a n).take j)).length = zs.length) := length_splice _ _ _ (by rw [List.length_take, HCL.out]; omega)
    clear hrw
    by_cases hjn : j < n
    · obtain ⟨c1, c2, c3⟩ := row_cell (i := b + j) RJ.out (by rw [LN.out]; omega)
      have gc := (RJ.out.2.1.cell (p := ⟨zb, off + (a + j), none⟩) hz).trans (HCC.out (a + j) (by omega))
      have RN := Lib.hid (row_set (i := b + j) RJ.out (by rw [LN.out]; omega) (zs.getD (a + j) 0))
      have RK : Hid (Row w g rest (splice zs b ((cut zs a n).take (j + 1))) (wr.setCell ⟨g, b + j, none⟩ (.int .u64 (zs.getD (a + j) 0)))) := by
        show Row _ _ _ _ _
        rw [splice_step zs (cut zs a n) b j (by rw [HCL.out]; omega) (by rw [HCL.out]; exact hjn), cut_get _ _ _ _ hjn]
        exact RN.out
      have i1 : b + j < zs.length := by omega
      have i2 : a + j < zs.length := by omega
      clear RN
      generalize zs.getD (a + j) 0 = x at *
      go_wp2
      exact ⟨⟨j + 1, by omega, by go_num, RK.out⟩, by simp [intOf]; omega⟩
    · have HJ : Hid (j = n) := (by omega : j = n)
      go_wp2
      go_ret2
      have q := RJ.out
      rw [HJ.out, List.take_of_length_le (by rw [HCL.out]; exact Nat.le_refl _)] at q
      have q2 := row_own q (by rw [length_splice _ _ _ (by rw [HCL.out]; omega)]; exact HM.out)
      rw [length_splice _ _ _ (by rw [HCL.out]; omega)] at q2
      exact ⟨_, rfl, q2, q.2.1⟩

set_option maxHeartbeats 400000 in
theorem rclear_c (zs : List Int) (a n x : Int) (v : Value) (w : World) (hv : Words w v zs) (hx : x ≠ 0) (h : chkA zs = x) : Calls Try.prog 20 #[v, .int .i64 a, .int .i64 n] w (OnePost ⟨[], [], 0, 0, 0, x⟩ w) := by
  have HV := Lib.hid hv
  have H := Lib.hid h
  have t1 : (x != 0) = true := by simpa using hx
  have t2 : (x == 0) = false := by simpa using hx
  clear hv h hx
  go_enter Try.func20, Try.ntmps20
  go_wp2_with (first | (go_at_call 30; refine (rcheck_val _ HV.out H.out).mono ?_; rintro e w1 ⟨rfl, rfl⟩))
  go_ret2
  exact ⟨_, rfl, own_nil _ _, Below.refl _ _⟩

set_option maxHeartbeats 400000 in
theorem rclear_p (zs : List Int) (a n : Int) (s : Option Addr) (cap : Nat) (w : World) (hv : Words w (.slice s zs.length cap) zs) (h : chkA zs = 0) (h0 : partB zs.length a n = false) : Calls Try.prog 20 #[.slice s zs.length cap, .int .i64 a, .int .i64 n] w (OnePost ⟨[], [], 0, 0, 0, 7⟩ w) := by
  have HV := Lib.hid hv
  have H := Lib.hid h
  obtain ⟨l1, l2, _⟩ := chk_ok h
  have HP0 := Lib.hid h0
  clear hv h h0
  go_enter Try.func20, Try.ntmps20
  go_wp2_with fail
  refine (rcheck_val _ HV.out H.out).mono ?_
  rintro e w1 ⟨rfl, rfl⟩
  go_wp2_with fail
  refine (rpart_val _ l2 HP0.out).mono ?_
  rintro e w1 ⟨rfl, rfl⟩
  go_wp2
  go_ret2
  exact ⟨_, rfl, own_nil _ _, Below.refl _ _⟩

set_option maxHeartbeats 2000000 in
theorem rclear_y (zs : List Int) (a n zb off cap : Nat) (w : World) (hv : Words w (.slice (some ⟨zb, off, none⟩) zs.length cap) zs) (h : chkA zs = 0) (h0 : partB zs.length a n = true) (hz : zb < w.heap.size) (hc : ∀ i : Nat, i < zs.length → w.cell? ⟨zb, off + i, none⟩ = some (.int .u64 (zs.getD i 0))) : Calls Try.prog 20 #[.slice (some ⟨zb, off, none⟩) zs.length cap, .int .i64 a, .int .i64 n] w (OnePost ⟨splice zs a (List.replicate n 0), [], 0, 0, 0, 0⟩ w) := by
  have HV := Lib.hid hv
  have H := Lib.hid h
  obtain ⟨l1, l2, _⟩ := chk_ok h
  have HP0 := Lib.hid h0
  obtain ⟨p1, p2, _, p4⟩ := partB_true.1 h0
  have HCL : Hid ((List.replicate n (0 : Int)).length = n) := List.length_replicate
  obtain ⟨g, rest, W, hrun, hmax, hrow⟩ := clone_run zs zb off cap w (by omega) (by omega) hz hc
  have HR := Lib.hid hrun
  have HM := Lib.hid hmax
  have RW := Lib.hid hrow
  have HCC := Lib.hid hc
  clear hv h hc hrun hmax hrow h0
  go_enter Try.func20, Try.ntmps20
  go_wp2_with fail
  refine (rcheck_val _ HV.out H.out).mono ?_
  rintro e w1 ⟨rfl, rfl⟩
  go_wp2_with fail
  refine (rpart_val _ l2 HP0.out).mono ?_
  rintro e w1 ⟨rfl, rfl⟩
  go_wp2_with (at_builtin; refine wpList_app rfl (.tmp 25) (.tmp 26) rfl rfl rfl rfl HR.out ?_)
  go_loopw [10] (fun i wr => ∃ j : Nat, j ≤ n ∧ i = .int .i64 j ∧ Row w g rest (splice zs a ((List.replicate n 0).take j)) wr) (fun i _ => n - (intOf i).toNat)
  case atStart => exact ⟨0, Nat.zero_le _, rfl, by rw [List.take_zero, splice_nil]; exact RW.out⟩
  case round =>
    obtain ⟨j, hj, rfl, hrw⟩ := hrel
    have RJ := Lib.hid hrw
    have LN : Hid ((splice zs a ((List.replicate n 0).take j)).length = zs.length) := length_splice _ _ _ (by rw [List.length_take, HCL.out]; omega)
    clear hrw
    by_cases hjn : j < n
    · obtain ⟨c1, c2, c3⟩ := row_cell (i := a + j) RJ.out (by rw [LN.out]; omega)
      have RN := Lib.hid (row_set (i := a + j) RJ.out (by rw [LN.out]; omega) (0))
      have RK : Hid (Row w g rest (splice zs a ((List.replicate n 0).take (j + 1))) (wr.setCell ⟨g, a + j, none⟩ (.int .u64 (0)))) := by
        show Row _ _ _ _ _
        rw [splice_step zs (List.replicate n 0) a j (by rw [HCL.out]; omega) (by rw [HCL.out]; exact hjn), show (List.replicate n (0 : Int)).getD j 0 = 0 by simp [List.getD, hjn]]
        exact RN.out
      have i1 : a + j < zs.length := by omega
      clear RN
      go_wp2
      exact ⟨⟨j + 1, by omega, by go_num, RK.out⟩, by simp [intOf]; omega⟩
    · have HJ : Hid (j = n) := (by omega : j = n)
      go_wp2
      go_ret2
      have q := RJ.out
      rw [HJ.out, List.take_of_length_le (by rw [HCL.out]; exact Nat.le_refl _)] at q
      have q2 := row_own q (by rw [length_splice _ _ _ (by rw [HCL.out]; omega)]; exact HM.out)
      rw [length_splice _ _ _ (by rw [HCL.out]; omega)] at q2
      exact ⟨_, rfl, q2, q.2.1⟩

/-- What of a result the callers of Set, Copy and Clear see. -/
theorem onePost_of {R R' : PR} {w w' : World} {e : Ending} (h1 : R.out = R'.out) (h2 : R.e = R'.e) (h : OnePost R w e w') : OnePost R' w e w' := by
  obtain ⟨v, e1, e2, e3⟩ := h
  exact ⟨v, by rw [e1, h2], by rw [← h1]; exact e2, e3⟩
theorem if7 {b : Bool} (h : b = false) : (if b = true then (0 : Int) else 7) = 7 := by rw [h]; rfl
theorem if0 {b : Bool} (h : b = true) : (if b = true then (0 : Int) else 7) = 0 := by rw [h]; rfl
theorem rset_any (zs : List Int) (a u : Int) (v : Value) (w : World) (hv : Words w v zs) : Calls Try.prog 32 #[v, .int .i64 a, .int .u64 u] w (OnePost (playR zs [⟨2, a, 0, 0, u⟩]) w) := by
  by_cases hc : chkA zs = 0
  · obtain ⟨l1, l2, l3⟩ := chk_ok hc
    obtain ⟨zb, off, cap, rfl, h1, h2, h3⟩ := words_some hv l1
    cases hp : partB zs.length a 1
    · rw [one_err hc (e := 7) (by show (if _ then _ else _) = _; exact if7 hp) (by decide)]; exact rset_p zs a u _ _ w hv hc hp
    · rw [one_ok hc (by show (if _ then _ else _) = _; exact if0 hp)]
      obtain ⟨p1, _, _, _⟩ := partB_true.1 hp
      obtain ⟨a, rfl⟩ := Int.eq_ofNat_of_zero_le (show 0 ≤ a by omega)
      exact (rset_y zs a zb off cap u w hv hc hp h2 h3).mono fun e w' hh => onePost_of rfl rfl hh
  · rw [playR_no _ hc]; exact rset_c zs a u _ v w hv hc rfl
theorem rcopy_any (zs : List Int) (a b n : Int) (v : Value) (w : World) (hv : Words w v zs) : Calls Try.prog 19 #[v, .int .i64 a, .int .i64 b, .int .i64 n] w (OnePost (playR zs [⟨3, a, b, n, 0⟩]) w) := by
  by_cases hc : chkA zs = 0
  · obtain ⟨l1, l2, l3⟩ := chk_ok hc
    obtain ⟨zb, off, cap, rfl, h1, h2, h3⟩ := words_some hv l1
    cases hp : partB zs.length a n
    · rw [one_err hc (e := 7) (by show (if _ then _ else _) = _; exact if7 (by rw [hp]; rfl)) (by decide)]; exact rcopy_p zs a b n _ _ w hv hc hp
    · cases hq : partB zs.length b n
      · rw [one_err hc (e := 7) (by show (if _ then _ else _) = _; exact if7 (by rw [hp, hq]; rfl)) (by decide)]; exact rcopy_q zs a b n _ _ w hv hc hp hq
      · rw [one_ok hc (by show (if _ then _ else _) = _; exact if0 (by rw [hp, hq]; rfl))]
        obtain ⟨p1, _, p3, _⟩ := partB_true.1 hp
        obtain ⟨q1, _, _, _⟩ := partB_true.1 hq
        obtain ⟨a, rfl⟩ := Int.eq_ofNat_of_zero_le (show 0 ≤ a by omega)
        obtain ⟨b, rfl⟩ := Int.eq_ofNat_of_zero_le (show 0 ≤ b by omega)
        obtain ⟨n, rfl⟩ := Int.eq_ofNat_of_zero_le p3
        exact (rcopy_y zs a b n zb off cap w hv hc hp hq h2 h3).mono fun e w' hh => onePost_of rfl rfl hh
  · rw [playR_no _ hc]; exact rcopy_c zs a b n _ v w hv hc rfl
theorem rclear_any (zs : List Int) (a n : Int) (v : Value) (w : World) (hv : Words w v zs) : Calls Try.prog 20 #[v, .int .i64 a, .int .i64 n] w (OnePost (playR zs [⟨4, a, 0, n, 0⟩]) w) := by
  by_cases hc : chkA zs = 0
  · obtain ⟨l1, l2, l3⟩ := chk_ok hc
    obtain ⟨zb, off, cap, rfl, h1, h2, h3⟩ := words_some hv l1
    cases hp : partB zs.length a n
    · rw [one_err hc (e := 7) (by show (if _ then _ else _) = _; exact if7 hp) (by decide)]; exact rclear_p zs a n _ _ w hv hc hp
    · rw [one_ok hc (by show (if _ then _ else _) = _; exact if0 hp)]
      obtain ⟨p1, _, p3, _⟩ := partB_true.1 hp
      obtain ⟨a, rfl⟩ := Int.eq_ofNat_of_zero_le (show 0 ≤ a by omega)
      obtain ⟨n, rfl⟩ := Int.eq_ofNat_of_zero_le p3
      exact (rclear_y zs a n zb off cap w hv hc hp h2 h3).mono fun e w' hh => onePost_of rfl rfl hh
  · rw [playR_no _ hc]; exact rclear_c zs a n _ v w hv hc rfl

set_option maxHeartbeats 400000 in
theorem rzero_c (zs : List Int) (a b x : Int) (v : Value) (w : World) (hv : Words w v zs) (hx : x ≠ 0) (h : chkA zs = x) : Calls Try.prog 22 #[v, .int .i64 a, .int .i64 b] w fun e w' => e = .returned (.tuple #[.bool false, .int .i64 x]) ∧ w = w' := by
  have HV := Lib.hid hv
  have H := Lib.hid h
  have t1 : (x != 0) = true := by simpa using hx
  have t2 : (x == 0) = false := by simpa using hx
  clear hv h hx
  go_enter Try.func22, Try.ntmps22
  go_wp2_with (first | (go_at_call 30; refine (rcheck_val _ HV.out H.out).mono ?_; rintro e w1 ⟨rfl, rfl⟩))
  go_ret2
  exact ⟨rfl, rfl⟩
set_option maxHeartbeats 400000 in
theorem rzero_p (zs : List Int) (a b : Int) (s : Option Addr) (cap : Nat) (w : World) (hv : Words w (.slice s zs.length cap) zs) (h : chkA zs = 0) (hr : a < 1 ∨ b < a ∨ (zs.length : Int) < b) : Calls Try.prog 22 #[.slice s zs.length cap, .int .i64 a, .int .i64 b] w fun e w' => e = .returned (.tuple #[.bool false, .int .i64 7]) ∧ w = w' := by
  have HV := Lib.hid hv
  have H := Lib.hid h
  have hr' : a < 1 ∨ (¬ a < 1 ∧ b < a) ∨ (¬ a < 1 ∧ ¬ b < a ∧ (zs.length : Int) < b) := by omega
  clear hv h hr
  rcases hr' with h1 | ⟨h1, h2⟩ | ⟨h1, h2, h3⟩
  all_goals
    go_enter Try.func22, Try.ntmps22
    go_wp2_with (first | (go_at_call 30; refine (rcheck_val _ HV.out H.out).mono ?_; rintro e w1 ⟨rfl, rfl⟩))
    go_ret2
    exact ⟨rfl, rfl⟩
set_option maxHeartbeats 2000000 in
theorem rzero_y (zs : List Int) (a n zb off cap : Nat) (w : World) (hv : Words w (.slice (some ⟨zb, off, none⟩) zs.length cap) zs) (h : chkA zs = 0) (h1 : 1 ≤ a) (h2 : a + n ≤ zs.length) (hc : ∀ i : Nat, i < zs.length → w.cell? ⟨zb, off + i, none⟩ = some (.int .u64 (zs.getD i 0))) : Calls Try.prog 22 #[.slice (some ⟨zb, off, none⟩) zs.length cap, .int .i64 a, .int .i64 ((a : Int) + (n : Int))] w fun e w' => e = .returned (.tuple #[.bool ((cut zs a n).all (fun x => x == 0)), .int .i64 0]) ∧ w = w' := by
  have HV := Lib.hid hv
  have H := Lib.hid h
  have HC := Lib.hid hc
  obtain ⟨l1, l2, _⟩ := chk_ok h
  have HCL := Lib.hid (cut_length zs a n h2)
  have t1 : ¬ (a : Int) < 1 := by omega
  have t2 : ¬ (a : Int) + (n : Int) < (a : Int) := by omega
  have t3 : ¬ (zs.length : Int) < (a : Int) + (n : Int) := by omega
  clear hv h hc
  go_enter Try.func22, Try.ntmps22
  go_wp2_with fail
  refine (rcheck_val _ HV.out H.out).mono ?_
  rintro e w1 ⟨rfl, rfl⟩
  go_wp2_with fail
  go_loop [9] (fun i => ∃ j : Nat, j ≤ n ∧ i = .int .i64 ((a : Int) + (j : Int)) ∧ Hid (∀ m, m < j → zs.getD (a + m) 0 = 0)) (fun i => a + n - (intOf i).toNat)
  case atStart => exact ⟨0, Nat.zero_le _, by simp, (fun m hm => by omega : ∀ m, m < 0 → zs.getD (a + m) 0 = 0)⟩
  case round =>
    obtain ⟨j, hj, rfl, HE⟩ := hrel
    by_cases hjn : j < n
    · have gc := HC.out (a + j) (by omega)
      have i1 : (a : Int) + (j : Int) < (a : Int) + (n : Int) := by omega
      have i2 : a + j < zs.length := by omega
      have i3 : ((a : Int) + (j : Int)).toNat = a + j := by omega
      have i4 : (0 : Int) ≤ (a : Int) + (j : Int) := by omega
      have i5 : (a : Int) + (j : Int) < (zs.length : Int) := by omega
      generalize hx : zs.getD (a + j) 0 = x at *
      have HX := Lib.hid hx
      clear hx
      by_cases h0 : x = 0
      · subst h0
        go_wp2
        refine ⟨⟨j + 1, by omega, by go_num, ?_⟩, by simp [intOf]; omega⟩
        intro m hm
        by_cases hmj : m = j
        · rw [hmj, HX.out]
        · exact HE.out m (by omega)
      · have b1 : (x != 0) = true := by simpa using h0
        have HN : Hid ((cut zs a n).all (fun x => x == 0) = false) := by
          show _ = false
          rw [List.all_eq_false]
          have hg := cut_get zs a n j hjn
          rw [HX.out] at hg
          have hjl : j < (cut zs a n).length := by rw [HCL.out]; exact hjn
          exact ⟨(cut zs a n)[j], List.getElem_mem hjl, by simp [List.getD, hjl] at hg; rw [hg]; simpa using h0⟩
        clear h0
        go_wp2
        go_ret2
        exact ⟨by rw [HN.out]; rfl, rfl⟩
    · have HN : Hid ((cut zs a n).all (fun x => x == 0) = true) := by
        show _ = true
        rw [List.all_eq_true]
        intro y hy
        obtain ⟨m, hm, rfl⟩ := List.getElem_of_mem hy
        have hm' : m < n := by rw [HCL.out] at hm; exact hm
        have hg := cut_get zs a n m hm'
        rw [HE.out m (by omega)] at hg
        simp [List.getD, hm] at hg
        simp [hg]
      have i1 : ¬ (a : Int) + (j : Int) < (a : Int) + (n : Int) := by omega
      go_wp2
      go_ret2
      exact ⟨by rw [HN.out]; rfl, rfl⟩
theorem rzero_any (zs : List Int) (a b : Int) (v : Value) (w : World) (hv : Words w v zs) : Calls Try.prog 22 #[v, .int .i64 a, .int .i64 b] w fun e w' => e = .returned (.tuple #[.bool (zeroR zs a b).1, .int .i64 (zeroR zs a b).2]) ∧ w = w' := by
  unfold zeroR
  by_cases hc : chkA zs = 0
  · rw [if_neg (by simpa using hc)]
    obtain ⟨l1, l2, l3⟩ := chk_ok hc
    obtain ⟨zb, off, cap, rfl, h1, h2, h3⟩ := words_some hv l1
    by_cases hr : a < 1 ∨ b < a ∨ (zs.length : Int) < b
    · rw [if_pos hr]; exact rzero_p zs a b _ _ w hv hc hr
    · rw [if_neg hr]
      obtain ⟨a, rfl⟩ := Int.eq_ofNat_of_zero_le (show 0 ≤ a by omega)
      obtain ⟨n, hn⟩ := Int.eq_ofNat_of_zero_le (show 0 ≤ b - (a : Int) by omega)
      have hb : b = (a : Int) + (n : Int) := by omega
      subst hb
      have hn' : ((a : Int) + (n : Int) - (a : Int)) = (n : Int) := by omega
      rw [hn', Int.toNat_natCast, Int.toNat_natCast]
      exact rzero_y zs a n zb off cap w hv hc (by omega) (by omega) h3
  · rw [if_pos (by simpa using hc)]; exact rzero_c zs a b _ v w hv hc rfl
end Go.Proofs.Ytmjjbnjedafdaaa
