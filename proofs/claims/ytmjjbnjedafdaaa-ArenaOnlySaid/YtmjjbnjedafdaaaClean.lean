/-
  Walks of the layer arena: the player's clean.
-/
import Derived.Test.YtmjjbnjedafdaaaSet
import Derived.Lib.SliceRun
namespace Go.Proofs.Ytmjjbnjedafdaaa
open Go.RowKit

theorem zero32 (w : World) : (zeroValue 32).run Try.prog w = .ok (.int .u64 0) w := by kernel_rfl

theorem us_splice (l : List Int) (o : Nat) (cs : List Int) (rest : List Value) (h : o + cs.length ≤ l.length) : splice (us l ++ rest) o (us cs) = us (splice l o cs) ++ rest := by
  unfold splice
  rw [List.take_append_of_le_length (by rw [us_length]; omega), us_length, List.drop_append_of_le_length (by rw [us_length]; omega), us_append, us_append]
  simp [us]

theorem pf_clear {w0 wa w : World} {P zb base : Nat} {rest : List Value} {out got : List Int} {gv : Value} {r c : Int} (h : PF w0 P zb base rest out got gv r c wa w) (o : Nat) (cs : List Int) (hl : o + cs.length ≤ out.length) :
    PF w0 P zb base rest (splice out o cs) got gv r c wa (w.setCells zb o (us cs)) := by
  refine pf_row h (length_splice _ _ _ hl) ?_ (fun k hk => sets_other hk _ _ _) (sets_below (Nat.le_refl _) _ _ _ (Below.refl _ _)) (sets_size _ _ _)
  rw [← us_splice _ _ _ _ hl]
  exact blk_sets _ _ _ _ h.1.hz (by rw [us_length, List.length_append, us_length]; omega)

set_option maxHeartbeats 1000000 in
theorem pclean_yes (w0 w : World) (P zb base : Nat) (rest : List Value) (out got : List Int) (gv : Value) (r c k to v : Int) (a n : Nat) (h : Pl w0 P zb base rest out got gv r c w) (hl : out.length ≤ 1601) (h1 : 1 ≤ a) (h2 : a + n ≤ out.length) (h3 : 1 ≤ n) (c0 : 0 ≤ c) (c1 : c ≤ 1000000) :
    Calls Try.prog 46 #[.pointer (some ⟨P, 0, none⟩), .agg #[.int .i64 k, .int .i64 a, .int .i64 to, .int .i64 n, .int .u64 v]] w (Does 0 (PF w0 P zb base rest (splice out a (List.replicate n 0)) got gv r (c + n) w)) := by
  have G0 := Lib.hid (pf_start h)
  clear h
  go_enter Try.func46, Try.ntmps46
  have G1 := Lib.hid (pf_alloc G0.out (.cells #[.int .i64 k, .int .i64 a, .int .i64 to, .int .i64 n, .int .u64 v] 35))
  obtain ⟨p0, p1, p2, p3, f1, f2, f3, z1, z2, ZC, ZF⟩ := pf_cells G0.out
  clear ZC ZF
  go_wp2_with fail
  go_quiet ((go_at_call 38; exact quiet_eq (fun W => part_some zb 0 out.length (out.length + rest.length) a n W h1 (by omega) (by omega) hl (by omega))))
  have G2 := Lib.hid (pf_drewN G1.out nq)
  clear p0 p1 p2 p3 f1 f2 f3 z1 z2
  generalize (w.alloc (.cells #[.int .i64 k, .int .i64 a, .int .i64 to, .int .i64 n, .int .u64 v] 35)).drewN nq = W at *
  obtain ⟨p0, p1, p2, p3, f1, f2, f3, z1, z2, ZC, ZF⟩ := pf_cells G2.out
  have G3 := Lib.hid (pf_clear G2.out a (List.replicate n 0) (by simp; exact h2))
  have HU : us (List.replicate n 0) = List.replicate n (.int .u64 0) := by simp [us]
  have hcl : ∀ ty, (Builtin.clear_ #[22] ty #[.slice (some ⟨zb, a, none⟩) n n]).run Try.prog W = .ok (.tuple #[]) (W.setCells zb a (List.replicate n (.int .u64 0))) :=
    fun ty => Lib.run_clear_slice W 22 32 ty (.int .u64 0) Try.underlying22 zero32 rfl rfl zb a n n (by omega) (fun j hj => by rw [ZC (a + j) (by omega)]; rfl) (fun j hj => ZF _)
  rw [← HU] at hcl
  clear ZC ZF G1 HU
  generalize W.setCells zb a (us (List.replicate n 0)) = W2 at *
  obtain ⟨e0, e1, e2, e3, g1, g2, g3, y1, y2, YC, YF⟩ := pf_cells G3.out
  clear YC YF
  go_wp2
  go_ret
  exact ⟨rfl, pf_writes G3.out _⟩

theorem clear_none (a : Option Addr) (w : World) (ty : TypeId) : (Builtin.clear_ #[22] ty #[.slice a 0 0]).run Try.prog w = .ok (.tuple #[]) w := by
  cases a <;> simp [Builtin.clear_, run_underlying Try.underlying22]

set_option maxHeartbeats 1000000 in
theorem pclean_zero (w0 w : World) (P zb base : Nat) (rest : List Value) (out got : List Int) (gv : Value) (r c k to v : Int) (a : Nat) (h : Pl w0 P zb base rest out got gv r c w) (hl : out.length ≤ 1601) (h1 : 1 ≤ a) (h2 : a ≤ out.length) (c0 : 0 ≤ c) (c1 : c ≤ 1000000) :
    Calls Try.prog 46 #[.pointer (some ⟨P, 0, none⟩), .agg #[.int .i64 k, .int .i64 a, .int .i64 to, .int .i64 0, .int .u64 v]] w (Does 0 (PF w0 P zb base rest out got gv r c w)) := by
  have G0 := Lib.hid (pf_start h)
  clear h
  go_enter Try.func46, Try.ntmps46
  have G1 := Lib.hid (pf_alloc G0.out (.cells #[.int .i64 k, .int .i64 a, .int .i64 to, .int .i64 0, .int .u64 v] 35))
  obtain ⟨p0, p1, p2, p3, f1, f2, f3, z1, z2, ZC, ZF⟩ := pf_cells G0.out
  clear ZC ZF
  go_wp2_with fail
  go_quiet ((go_at_call 38; exact quiet_eq (fun W => part_zero zb 0 out.length (out.length + rest.length) a W h1 (by omega) (by omega) hl)))
  have G2 := Lib.hid (pf_drewN G1.out nq)
  have hcl := clear_none (some ⟨zb, 0, none⟩)
  go_wp2
  go_ret
  have q := pf_writes G2.out c
  exact ⟨rfl, q⟩

set_option maxHeartbeats 1000000 in
theorem pclean_no (w0 w : World) (P zb base : Nat) (rest : List Value) (out got : List Int) (gv : Value) (r c k to n v : Int) (a : Int) (h : Pl w0 P zb base rest out got gv r c w) (hl : out.length ≤ 1601) (h1 : partB out.length a n = false) :
    Calls Try.prog 46 #[.pointer (some ⟨P, 0, none⟩), .agg #[.int .i64 k, .int .i64 a, .int .i64 to, .int .i64 n, .int .u64 v]] w (Does 7 (PF w0 P zb base rest out got gv r c w)) := by
  have G0 := Lib.hid (pf_start h)
  have H1 := Lib.hid h1
  clear h h1
  go_enter Try.func46, Try.ntmps46
  have G1 := Lib.hid (pf_alloc G0.out (.cells #[.int .i64 k, .int .i64 a, .int .i64 to, .int .i64 n, .int .u64 v] 35))
  obtain ⟨p0, p1, p2, p3, f1, f2, f3, z1, z2, ZC, ZF⟩ := pf_cells G0.out
  clear ZC ZF
  go_wp2_with fail
  go_quiet ((go_at_call 38; exact quiet_eq (fun W => part_no _ out.length (out.length + rest.length) a n W hl H1.out)))
  have G2 := Lib.hid (pf_drewN G1.out nq)
  go_wp2
  go_ret
  exact ⟨rfl, G2.out⟩
end Go.Proofs.Ytmjjbnjedafdaaa
