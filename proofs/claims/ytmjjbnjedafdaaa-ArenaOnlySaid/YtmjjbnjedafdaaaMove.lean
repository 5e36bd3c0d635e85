/-
  Walks of the layer arena: the player's move.
-/
import Derived.Test.YtmjjbnjedafdaaaClean
namespace Go.Proofs.Ytmjjbnjedafdaaa
open Go.RowKit

theorem size32 : (Try.prog.info? 32).map (·.size) = some 1 := by kernel_rfl
def cut (l : List Int) (a n : Nat) : List Int := (l.drop a).take n
theorem cut_length (l : List Int) (a n : Nat) (h : a + n ≤ l.length) : (cut l a n).length = n := by unfold cut; rw [List.length_take, List.length_drop]; omega
theorem cut_get (l : List Int) (a n j : Nat) (hj : j < n) : (cut l a n).getD j 0 = l.getD (a + j) 0 := by
  unfold cut; simp [List.getD, hj]

theorem pf_copy {w0 wa w : World} {P zb base : Nat} {rest : List Value} {out got : List Int} {gv : Value} {r c : Int} (h : PF w0 P zb base rest out got gv r c wa w) (o : Nat) (cs : List Int) (hl : o + cs.length ≤ out.length) :
    PF w0 P zb base rest (splice out o cs) got gv r c wa (w.setRow zb (us (splice out o cs) ++ rest).toArray) :=
  pf_row h (length_splice _ _ _ hl) (setRow_heap w zb _ _ _ _ h.1.hz) (fun k hk => setRow_other w zb k _ hk) ⟨rfl, rfl, rfl, by simp [World.setRow], fun k hk => setRow_other w zb k _ (by omega)⟩ (by simp [World.setRow])

theorem copy_run {w0 wa w : World} {P zb base : Nat} {rest : List Value} {out got : List Int} {gv : Value} {r c : Int} (h : PF w0 P zb base rest out got gv r c wa w) (a b n : Nat) (h2 : a + n ≤ out.length) (h5 : b + n ≤ out.length) (ty : TypeId) :
    (Builtin.copy_ #[22, 22] ty #[.slice (some ⟨zb, b, none⟩) n n, .slice (some ⟨zb, a, none⟩) n n]).run Try.prog w = .ok (.int .i64 n) (w.setRow zb (us (splice out b (cut out a n)) ++ rest).toArray) := by
  have hc := (pf_cells h).2.2.2.2.2.2.2.2.2.1
  have hl := cut_length out a n h2
  have q := run_copy_row (P := Try.prog) w 22 22 ty 32 zb b n n ⟨zb, a, none⟩ n n (us out ++ rest).toArray 32 (us (cut out a n)) Try.underlying22 size32 h.1.hz (by rw [us_length, hl]; simp) (fun j v hj => by
    have hj' : j < n := by have := (List.getElem?_eq_some_iff.1 hj).1; rw [us_length, hl] at this; exact this
    rw [us_get _ _ (by rw [hl]; exact hj')] at hj
    rw [cut_get _ _ _ _ hj'] at hj
    rw [Go.WideShapes.add_plain, hc (a + j) (by omega)]; exact hj) (by rw [us_length, hl]; simp [us_length]; omega) (fun v hv => by
    obtain ⟨x, _, rfl⟩ := List.mem_map.1 hv; rfl)
  rw [q, us_length, hl, ← us_splice _ _ _ _ (by rw [hl]; exact h5)]
  unfold splice
  rw [us_length, hl, List.append_assoc]
  rfl

set_option maxHeartbeats 2000000 in
theorem pmove_yes (w0 w : World) (P zb base : Nat) (rest : List Value) (out got : List Int) (gv : Value) (r c k v : Int) (a b n : Nat) (h : Pl w0 P zb base rest out got gv r c w) (hl : out.length ≤ 1601) (h1 : 1 ≤ a) (h2 : a + n ≤ out.length) (h3 : 1 ≤ n) (h4 : 1 ≤ b) (h5 : b + n ≤ out.length) (c0 : 0 ≤ c) (c1 : c ≤ 1000000) (r0 : 0 ≤ r) (r1 : r ≤ 1000000) :
    Calls Try.prog 45 #[.pointer (some ⟨P, 0, none⟩), .agg #[.int .i64 k, .int .i64 a, .int .i64 b, .int .i64 n, .int .u64 v]] w (Does 0 (PF w0 P zb base rest (splice out b (cut out a n)) got gv (r + n) (c + n) w)) := by
  have G0 := Lib.hid (pf_start h)
  clear h
  go_enter Try.func45, Try.ntmps45
  have G1 := Lib.hid (pf_alloc G0.out (.cells #[.int .i64 k, .int .i64 a, .int .i64 b, .int .i64 n, .int .u64 v] 35))
  obtain ⟨p0, p1, p2, p3, f1, f2, f3, z1, z2, ZC, ZF⟩ := pf_cells G0.out
  clear ZC ZF
  go_wp2_with fail
  go_quiet ((go_at_call 38; exact quiet_eq (fun W => part_some zb 0 out.length (out.length + rest.length) a n W h1 (by omega) (by omega) hl (by omega))))
  go_wp2_with fail
  have x2 : ((w.alloc (.cells #[.int .i64 k, .int .i64 a, .int .i64 b, .int .i64 n, .int .u64 v] 35)).drewN nq).cell? ⟨w.heap.size, 2, none⟩ = some (.int .i64 b) := by go_simp
  have x3 : ((w.alloc (.cells #[.int .i64 k, .int .i64 a, .int .i64 b, .int .i64 n, .int .u64 v] 35)).drewN nq).cell? ⟨w.heap.size, 3, none⟩ = some (.int .i64 n) := by go_simp
  have G2 := Lib.hid (pf_drewN G1.out nq)
  clear p0 p1 p2 p3 f1 f2 f3 z1 z2
  generalize (w.alloc (.cells #[.int .i64 k, .int .i64 a, .int .i64 b, .int .i64 n, .int .u64 v] 35)).drewN nq = W at *
  obtain ⟨p0, p1, p2, p3, f1, f2, f3, z1, z2, ZC, ZF⟩ := pf_cells G2.out
  clear ZC ZF
  go_quiet ((go_at_call 38; exact quiet_eq (fun W => part_some zb 0 out.length (out.length + rest.length) b n W h4 (by omega) (by omega) hl (by omega))))
  have G3 := Lib.hid (pf_drewN G2.out nq)
  clear p0 p1 p2 p3 f1 f2 f3 z1 z2 x2 x3
  generalize W.drewN nq = W2 at *
  have hcp := copy_run G3.out a b n h2 h5
  have G4 := Lib.hid (pf_copy G3.out b (cut out a n) (by rw [cut_length _ _ _ h2]; exact h5))
  clear G0 G1 G2 G3
  generalize W2.setRow zb (us (splice out b (cut out a n)) ++ rest).toArray = W3 at *
  obtain ⟨p0, p1, p2, p3, f1, f2, f3, z1, z2, ZC, ZF⟩ := pf_cells G4.out
  clear ZC ZF
  go_wp2
  go_ret
  exact ⟨rfl, pf_writes (pf_reads G4.out _) _⟩

theorem copy_none (w : World) (ty : TypeId) (a b : Option Addr) : (Builtin.copy_ #[22, 22] ty #[.slice a 0 0, .slice b 0 0]).run Try.prog w = .ok (.int .i64 0) w :=
  run_copy_none (P := Try.prog) w 22 22 ty 32 a b 0 0 0 0 Try.underlying22 size32 rfl

set_option maxHeartbeats 2000000 in
theorem pmove_zero (w0 w : World) (P zb base : Nat) (rest : List Value) (out got : List Int) (gv : Value) (r c k v : Int) (a b : Nat) (h : Pl w0 P zb base rest out got gv r c w) (hl : out.length ≤ 1601) (h1 : 1 ≤ a) (h2 : a ≤ out.length) (h4 : 1 ≤ b) (h5 : b ≤ out.length) (c0 : 0 ≤ c) (c1 : c ≤ 1000000) (r0 : 0 ≤ r) (r1 : r ≤ 1000000) :
    Calls Try.prog 45 #[.pointer (some ⟨P, 0, none⟩), .agg #[.int .i64 k, .int .i64 a, .int .i64 b, .int .i64 0, .int .u64 v]] w (Does 0 (PF w0 P zb base rest out got gv r c w)) := by
  have G0 := Lib.hid (pf_start h)
  clear h
  go_enter Try.func45, Try.ntmps45
  have G1 := Lib.hid (pf_alloc G0.out (.cells #[.int .i64 k, .int .i64 a, .int .i64 b, .int .i64 0, .int .u64 v] 35))
  obtain ⟨p0, p1, p2, p3, f1, f2, f3, z1, z2, ZC, ZF⟩ := pf_cells G0.out
  clear ZC ZF
  go_wp2_with fail
  go_quiet ((go_at_call 38; exact quiet_eq (fun W => part_zero zb 0 out.length (out.length + rest.length) a W h1 (by omega) (by omega) hl)))
  go_wp2_with fail
  have x2 : ((w.alloc (.cells #[.int .i64 k, .int .i64 a, .int .i64 b, .int .i64 0, .int .u64 v] 35)).drewN nq).cell? ⟨w.heap.size, 2, none⟩ = some (.int .i64 b) := by go_simp
  have x3 : ((w.alloc (.cells #[.int .i64 k, .int .i64 a, .int .i64 b, .int .i64 0, .int .u64 v] 35)).drewN nq).cell? ⟨w.heap.size, 3, none⟩ = some (.int .i64 0) := by go_simp
  have G2 := Lib.hid (pf_drewN G1.out nq)
  clear p0 p1 p2 p3 f1 f2 f3 z1 z2
  generalize (w.alloc (.cells #[.int .i64 k, .int .i64 a, .int .i64 b, .int .i64 0, .int .u64 v] 35)).drewN nq = W at *
  obtain ⟨p0, p1, p2, p3, f1, f2, f3, z1, z2, ZC, ZF⟩ := pf_cells G2.out
  clear ZC ZF
  go_quiet ((go_at_call 38; exact quiet_eq (fun W => part_zero zb 0 out.length (out.length + rest.length) b W h4 (by omega) (by omega) hl)))
  have G3 := Lib.hid (pf_drewN G2.out nq)
  have hcp := copy_none
  go_wp2
  go_ret
  exact ⟨rfl, pf_writes (pf_reads G3.out r) c⟩

/-- The slice that part returns of an arena that starts at its block's head. -/
def partV (zb : Nat) (a n : Int) : Value := if n = 0 then .slice (some ⟨zb, 0, none⟩) 0 0 else .slice (some ⟨zb, a.toNat, none⟩) n.toNat n.toNat
theorem part_yes (zb len cap : Nat) (a n : Int) (w : World) (h3 : len ≤ cap) (h4 : len ≤ 1601) (h : partB len a n = true) :
    Calls Try.prog 38 #[.slice (some ⟨zb, 0, none⟩) len cap, .int .i64 a, .int .i64 n] w fun e w' => e = .returned (.tuple #[partV zb a n, .int .i64 0]) ∧ w = w' := by
  obtain ⟨h1, h2, h5, h6⟩ := partB_true.1 h
  obtain ⟨x, rfl⟩ := Int.eq_ofNat_of_zero_le (show 0 ≤ a by omega)
  obtain ⟨y, rfl⟩ := Int.eq_ofNat_of_zero_le h5
  unfold partV
  by_cases hy : (y : Int) = 0
  · rw [if_pos hy, hy]; exact part_zero zb 0 len cap x w (by omega) (by omega) h3 h4
  · rw [if_neg hy, Int.toNat_natCast, Int.toNat_natCast]
    have := part_some zb 0 len cap x y w (by omega) (by omega) h3 h4 (by omega)
    rw [Nat.zero_add] at this; exact this

set_option maxHeartbeats 2000000 in
theorem pmove_nn (w0 w : World) (P zb base : Nat) (rest : List Value) (out got : List Int) (gv : Value) (r c k v : Int) (a b n : Int) (h : Pl w0 P zb base rest out got gv r c w) (hl : out.length ≤ 1601) (h1 : partB out.length a n = false) (h2 : partB out.length b n = false) :
    Calls Try.prog 45 #[.pointer (some ⟨P, 0, none⟩), .agg #[.int .i64 k, .int .i64 a, .int .i64 b, .int .i64 n, .int .u64 v]] w (Does 7 (PF w0 P zb base rest out got gv r c w)) := by
  have H1 := Lib.hid h1
  have H2 := Lib.hid h2
  clear h1 h2
  have G0 := Lib.hid (pf_start h)
  clear h
  go_enter Try.func45, Try.ntmps45
  have G1 := Lib.hid (pf_alloc G0.out (.cells #[.int .i64 k, .int .i64 a, .int .i64 b, .int .i64 n, .int .u64 v] 35))
  obtain ⟨p0, p1, p2, p3, f1, f2, f3, z1, z2, ZC, ZF⟩ := pf_cells G0.out
  clear ZC ZF
  go_wp2_with fail
  go_quiet ((go_at_call 38; exact quiet_eq (fun W => part_no _ out.length (out.length + rest.length) a n W hl H1.out)))
  go_wp2_with fail
  have x2 : ((w.alloc (.cells #[.int .i64 k, .int .i64 a, .int .i64 b, .int .i64 n, .int .u64 v] 35)).drewN nq).cell? ⟨w.heap.size, 2, none⟩ = some (.int .i64 b) := by go_simp
  have x3 : ((w.alloc (.cells #[.int .i64 k, .int .i64 a, .int .i64 b, .int .i64 n, .int .u64 v] 35)).drewN nq).cell? ⟨w.heap.size, 3, none⟩ = some (.int .i64 n) := by go_simp
  have G2 := Lib.hid (pf_drewN G1.out nq)
  clear p0 p1 p2 p3 f1 f2 f3 z1 z2
  generalize (w.alloc (.cells #[.int .i64 k, .int .i64 a, .int .i64 b, .int .i64 n, .int .u64 v] 35)).drewN nq = W at *
  obtain ⟨p0, p1, p2, p3, f1, f2, f3, z1, z2, ZC, ZF⟩ := pf_cells G2.out
  clear ZC ZF
  go_quiet ((go_at_call 38; exact quiet_eq (fun W => part_no _ out.length (out.length + rest.length) b n W hl H2.out)))
  have G3 := Lib.hid (pf_drewN G2.out nq)
  go_wp2
  go_ret
  exact ⟨rfl, G3.out⟩

set_option maxHeartbeats 2000000 in
theorem pmove_ny (w0 w : World) (P zb base : Nat) (rest : List Value) (out got : List Int) (gv : Value) (r c k v : Int) (a b n : Int) (h : Pl w0 P zb base rest out got gv r c w) (hl : out.length ≤ 1601) (h1 : partB out.length a n = false) (h2 : partB out.length b n = true) :
    Calls Try.prog 45 #[.pointer (some ⟨P, 0, none⟩), .agg #[.int .i64 k, .int .i64 a, .int .i64 b, .int .i64 n, .int .u64 v]] w (Does 7 (PF w0 P zb base rest out got gv r c w)) := by
  have H1 := Lib.hid h1
  have H2 := Lib.hid h2
  clear h1 h2
  have G0 := Lib.hid (pf_start h)
  clear h
  go_enter Try.func45, Try.ntmps45
  have G1 := Lib.hid (pf_alloc G0.out (.cells #[.int .i64 k, .int .i64 a, .int .i64 b, .int .i64 n, .int .u64 v] 35))
  obtain ⟨p0, p1, p2, p3, f1, f2, f3, z1, z2, ZC, ZF⟩ := pf_cells G0.out
  clear ZC ZF
  go_wp2_with fail
  go_quiet ((go_at_call 38; exact quiet_eq (fun W => part_no _ out.length (out.length + rest.length) a n W hl H1.out)))
  go_wp2_with fail
  have x2 : ((w.alloc (.cells #[.int .i64 k, .int .i64 a, .int .i64 b, .int .i64 n, .int .u64 v] 35)).drewN nq).cell? ⟨w.heap.size, 2, none⟩ = some (.int .i64 b) := by go_simp
  have x3 : ((w.alloc (.cells #[.int .i64 k, .int .i64 a, .int .i64 b, .int .i64 n, .int .u64 v] 35)).drewN nq).cell? ⟨w.heap.size, 3, none⟩ = some (.int .i64 n) := by go_simp
  have G2 := Lib.hid (pf_drewN G1.out nq)
  clear p0 p1 p2 p3 f1 f2 f3 z1 z2
  generalize (w.alloc (.cells #[.int .i64 k, .int .i64 a, .int .i64 b, .int .i64 n, .int .u64 v] 35)).drewN nq = W at *
  obtain ⟨p0, p1, p2, p3, f1, f2, f3, z1, z2, ZC, ZF⟩ := pf_cells G2.out
  clear ZC ZF
  go_quiet ((go_at_call 38; exact quiet_eq (fun W => part_yes zb out.length (out.length + rest.length) b n W (by omega) hl H2.out)))
  have G3 := Lib.hid (pf_drewN G2.out nq)
  go_wp2
  go_ret
  exact ⟨rfl, G3.out⟩

set_option maxHeartbeats 2000000 in
theorem pmove_yn (w0 w : World) (P zb base : Nat) (rest : List Value) (out got : List Int) (gv : Value) (r c k v : Int) (a b n : Int) (h : Pl w0 P zb base rest out got gv r c w) (hl : out.length ≤ 1601) (h1 : partB out.length a n = true) (h2 : partB out.length b n = false) :
    Calls Try.prog 45 #[.pointer (some ⟨P, 0, none⟩), .agg #[.int .i64 k, .int .i64 a, .int .i64 b, .int .i64 n, .int .u64 v]] w (Does 7 (PF w0 P zb base rest out got gv r c w)) := by
  have H1 := Lib.hid h1
  have H2 := Lib.hid h2
  clear h1 h2
  have G0 := Lib.hid (pf_start h)
  clear h
  go_enter Try.func45, Try.ntmps45
  have G1 := Lib.hid (pf_alloc G0.out (.cells #[.int .i64 k, .int .i64 a, .int .i64 b, .int .i64 n, .int .u64 v] 35))
  obtain ⟨p0, p1, p2, p3, f1, f2, f3, z1, z2, ZC, ZF⟩ := pf_cells G0.out
  clear ZC ZF
  go_wp2_with fail
  go_quiet ((go_at_call 38; exact quiet_eq (fun W => part_yes zb out.length (out.length + rest.length) a n W (by omega) hl H1.out)))
  go_wp2_with fail
  have x2 : ((w.alloc (.cells #[.int .i64 k, .int .i64 a, .int .i64 b, .int .i64 n, .int .u64 v] 35)).drewN nq).cell? ⟨w.heap.size, 2, none⟩ = some (.int .i64 b) := by go_simp
  have x3 : ((w.alloc (.cells #[.int .i64 k, .int .i64 a, .int .i64 b, .int .i64 n, .int .u64 v] 35)).drewN nq).cell? ⟨w.heap.size, 3, none⟩ = some (.int .i64 n) := by go_simp
  have G2 := Lib.hid (pf_drewN G1.out nq)
  clear p0 p1 p2 p3 f1 f2 f3 z1 z2
  generalize (w.alloc (.cells #[.int .i64 k, .int .i64 a, .int .i64 b, .int .i64 n, .int .u64 v] 35)).drewN nq = W at *
  obtain ⟨p0, p1, p2, p3, f1, f2, f3, z1, z2, ZC, ZF⟩ := pf_cells G2.out
  clear ZC ZF
  go_quiet ((go_at_call 38; exact quiet_eq (fun W => part_no _ out.length (out.length + rest.length) b n W hl H2.out)))
  have G3 := Lib.hid (pf_drewN G2.out nq)
  go_wp2
  go_ret
  exact ⟨rfl, G3.out⟩
end Go.Proofs.Ytmjjbnjedafdaaa
