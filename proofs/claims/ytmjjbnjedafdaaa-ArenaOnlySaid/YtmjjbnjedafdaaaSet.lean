/-
  Walks of the layer arena: the player's set.
-/
import Derived.Test.YtmjjbnjedafdaaaPart
import Derived.StillTailTactics
import Derived.Deep.QuietTactic
import Derived.BigQuiet
namespace Go.Proofs.Ytmjjbnjedafdaaa
open Go.RowKit

/-- How a method of the player ends: its error, and the player behind it. -/
def Does (x : Int) (Q : World → Prop) (e : Ending) (w' : World) : Prop := e = .returned (.int .i64 x) ∧ Q w'

theorem quiet_eq {P : Program} {f : FuncId} {args : Array Value} {w : World} {n : Nat} {v : Value} (h : ∀ W, Calls P f args W fun e w' => e = .returned v ∧ W = w') : Calls P f args (w.drewN n) fun e w'' => e = .returned v ∧ ∃ m, w'' = w.drewN m :=
  (h _).mono fun _ _ ⟨he, hm⟩ => ⟨he, n, hm.symm⟩

set_option maxHeartbeats 1000000 in
theorem pset_yes (w0 w : World) (P zb base : Nat) (rest : List Value) (out got : List Int) (gv : Value) (r c k to n v : Int) (a : Nat) (h : Pl w0 P zb base rest out got gv r c w) (hl : out.length ≤ 1601) (h1 : 1 ≤ a) (h2 : a < out.length) (c0 : 0 ≤ c) (c1 : c ≤ 1000000) :
    Calls Try.prog 44 #[.pointer (some ⟨P, 0, none⟩), .agg #[.int .i64 k, .int .i64 a, .int .i64 to, .int .i64 n, .int .u64 v]] w (Does 0 (PF w0 P zb base rest (out.set a v) got gv r (c + 1) w)) := by
  have G0 := Lib.hid (pf_start h)
  clear h
  go_enter Try.func44, Try.ntmps44
  have G1 := Lib.hid (pf_alloc G0.out (.cells #[.int .i64 k, .int .i64 a, .int .i64 to, .int .i64 n, .int .u64 v] 35))
  obtain ⟨p0, p1, p2, p3, f1, f2, f3, z1, z2, ZC, ZF⟩ := pf_cells G0.out
  have HZC := Lib.hid ZC
  have HZF := Lib.hid ZF
  clear ZC ZF
  go_wp2_with fail
  go_quiet ((go_at_call 38; exact quiet_eq (fun W => part_some zb 0 out.length (out.length + rest.length) a 1 W h1 (by omega) (by omega) hl (by omega))))
  have G2 := Lib.hid (pf_drewN G1.out nq)
  have zc := HZC.out a h2
  have zf := HZF.out a
  have zp : ¬ P = zb := by have := G0.out.1.s2; omega
  go_wp2
  go_ret
  exact ⟨rfl, pf_writes (pf_set G2.out a v h2) _⟩

set_option maxHeartbeats 1000000 in
theorem pset_no (w0 w : World) (P zb base : Nat) (rest : List Value) (out got : List Int) (gv : Value) (r c k to n v : Int) (a : Int) (h : Pl w0 P zb base rest out got gv r c w) (hl : out.length ≤ 1601) (h1 : partB out.length a 1 = false) :
    Calls Try.prog 44 #[.pointer (some ⟨P, 0, none⟩), .agg #[.int .i64 k, .int .i64 a, .int .i64 to, .int .i64 n, .int .u64 v]] w (Does 7 (PF w0 P zb base rest out got gv r c w)) := by
  have G0 := Lib.hid (pf_start h)
  have H1 := Lib.hid h1
  clear h h1
  go_enter Try.func44, Try.ntmps44
  have G1 := Lib.hid (pf_alloc G0.out (.cells #[.int .i64 k, .int .i64 a, .int .i64 to, .int .i64 n, .int .u64 v] 35))
  obtain ⟨p0, p1, p2, p3, f1, f2, f3, z1, z2, ZC, ZF⟩ := pf_cells G0.out
  clear ZC ZF
  go_wp2_with fail
  go_quiet ((go_at_call 38; exact quiet_eq (fun W => part_no _ out.length (out.length + rest.length) a 1 W hl H1.out)))
  have G2 := Lib.hid (pf_drewN G1.out nq)
  go_wp2
  go_ret
  exact ⟨rfl, G2.out⟩
end Go.Proofs.Ytmjjbnjedafdaaa
