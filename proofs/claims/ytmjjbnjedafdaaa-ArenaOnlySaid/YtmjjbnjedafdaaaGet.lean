/-
  Walks of the layer arena: the player's get.
-/
import Derived.Test.YtmjjbnjedafdaaaSet
import Derived.Deep.RegionLaw
import Derived.Deep.AppendLies
namespace Go.Proofs.Ytmjjbnjedafdaaa
open Go.RowKit

theorem info32 : (Try.prog.info? 32).map (fun i => (i.zero, i.size, i.bytes)) = some (some (.int .u64 0), 1, 8) := by kernel_rfl

theorem pf_grown {w0 wa w w1 : World} {P zb base : Nat} {rest : List Value} {out got : List Int} {gv : Value} {r c : Int} (h : PF w0 P zb base rest out got gv r c wa w) (hg : w.grownBy w1 gv.ownBlock) :
    w1.cell? ⟨P, 1, none⟩ = some gv ∧ w1.frozen? ⟨P, 1, none⟩ = false ∧ w1.cell? ⟨P, 2, none⟩ = some (.int .i64 r) ∧ w1.frozen? ⟨P, 2, none⟩ = false ∧ P < w1.heap.size := by
  obtain ⟨⟨hp, hz, own, bel, s1, s2, s3, s4⟩, hf⟩ := h
  have hne : some P ≠ gv.ownBlock := fun he => by have := (own.lt P he.symm).1; omega
  have hb : w1.heap[P]? = _ := (hg.block P (by omega) hne).trans hp
  exact ⟨by rw [blk_cell hb]; rfl, blk_free hb _, by rw [blk_cell hb]; rfl, blk_free hb _, by have := hg.size; omega⟩

set_option maxHeartbeats 2000000 in
theorem pget_yes (w0 w : World) (P zb base : Nat) (rest : List Value) (out got : List Int) (gv : Value) (r c k to n v : Int) (a : Nat) (h : Pl w0 P zb base rest out got gv r c w) (hl : out.length ≤ 1601) (h1 : 1 ≤ a) (h2 : a < out.length) (c0 : 0 ≤ r) (c1 : r ≤ 1000000) (hg : got.length ≤ 1000000) :
    Calls Try.prog 43 #[.pointer (some ⟨P, 0, none⟩), .agg #[.int .i64 k, .int .i64 a, .int .i64 to, .int .i64 n, .int .u64 v]] w (Does 0 (fun w' => ∃ gv', PF w0 P zb base rest out (got ++ [out.getD a 0]) gv' (r + 1) c w w')) := by
  obtain ⟨i0, hi0, hz0, hz1, hz2⟩ := info_parts info32
  have G0 := Lib.hid (pf_start h)
  clear h
  have hn : got.length + 1 ≤ maxLen := by unfold maxLen; omega
  have hb : (got.length + 1) * 8 ≤ 140737488355328 := by omega
  go_enter Try.func43, Try.ntmps43
  have G1 := Lib.hid (pf_alloc G0.out (.cells #[.int .i64 k, .int .i64 a, .int .i64 to, .int .i64 n, .int .u64 v] 35))
  obtain ⟨p0, p1, p2, p3, f1, f2, f3, z1, z2, ZC, ZF⟩ := pf_cells G0.out
  have HZC := Lib.hid ZC
  clear ZC ZF
  go_wp2_with fail
  go_quiet ((go_at_call 38; exact quiet_eq (fun W => part_some zb 0 out.length (out.length + rest.length) a 1 W h1 (by omega) (by omega) hl (by omega))))
  have G2 := Lib.hid (pf_drewN G1.out nq)
  clear p0 p1 p2 p3 f1 f2 f3 z1 z2 HZC
  generalize (w.alloc (.cells #[.int .i64 k, .int .i64 a, .int .i64 to, .int .i64 n, .int .u64 v] 35)).drewN nq = W at *
  obtain ⟨p0, p1, p2, p3, f1, f2, f3, z1, z2, ZC, ZF⟩ := pf_cells G2.out
  have zc := ZC a h2
  have HO := Lib.hid G2.out.1.own
  have hs4 := G2.out.1.s4
  clear ZC ZF G1
  generalize hx : out.getD a 0 = x at *
  have HX := Lib.hid hx
  clear hx
  go_wp2_with fail
  go_region_law ((refine step_append_lies _ (by rfl) (.tmp 24) (.tmp 28) 22 (by rfl) base 32 i0 (.int .u64 0) 1 8 Try.underlying22 hi0 hz0 hz1 hz2 rfl (by decide) gv got.length (us got) (by rfl) ((HO.out.alloc _).drew) ⟨W.heap.size, 0, none⟩ 1 1 [.int .u64 x] (by rfl) (by rfl) (World.news_of_block (cs := #[.int .u64 x]) (t := 32) (fr := (0, 0)) (heap_alloc_new W _)) (by simp [Value.oneCell']) (by omega) hn hb (by simp; omega) (W.heap.size + 1) (by simp) ?_; intro gg cap w1 hown1 hgrow hat hlt; have KG := Lib.hid (pf_grown (pf_drew (pf_alloc G2.out (.cells #[.int .u64 x] 32))) hgrow); obtain ⟨e1, e2, e3, e4, e5⟩ := KG.out))
  all_goals
    go_wp2
    go_ret
    have q := pf_got (pf_drew (pf_alloc G2.out (.cells #[.int .u64 x] 32))) hgrow hown1
    rw [← HX.out] at q
    exact ⟨rfl, _, pf_reads q _⟩

set_option maxHeartbeats 1000000 in
theorem pget_no (w0 w : World) (P zb base : Nat) (rest : List Value) (out got : List Int) (gv : Value) (r c k to n v : Int) (a : Int) (h : Pl w0 P zb base rest out got gv r c w) (hl : out.length ≤ 1601) (h1 : partB out.length a 1 = false) :
    Calls Try.prog 43 #[.pointer (some ⟨P, 0, none⟩), .agg #[.int .i64 k, .int .i64 a, .int .i64 to, .int .i64 n, .int .u64 v]] w (Does 7 (PF w0 P zb base rest out got gv r c w)) := by
  have G0 := Lib.hid (pf_start h)
  have H1 := Lib.hid h1
  clear h h1
  go_enter Try.func43, Try.ntmps43
  have G1 := Lib.hid (pf_alloc G0.out (.cells #[.int .i64 k, .int .i64 a, .int .i64 to, .int .i64 n, .int .u64 v] 35))
  obtain ⟨p0, p1, p2, p3, f1, f2, f3, z1, z2, ZC, ZF⟩ := pf_cells G0.out
  clear ZC ZF
  go_wp2_with fail
  go_quiet ((go_at_call 38; exact quiet_eq (fun W => part_no _ out.length (out.length + rest.length) a 1 W hl H1.out)))
  have G2 := Lib.hid (pf_drewN G1.out nq)
  go_wp2
  go_ret
  exact ⟨rfl, G2.out⟩
end Go.Proofs.Ytmjjbnjedafdaaa
