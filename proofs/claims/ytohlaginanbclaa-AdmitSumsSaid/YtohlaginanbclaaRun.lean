/-
  Walk of the layer admit: Run.
-/
import Derived.Test.YtohlaginanbclaaPub
import Derived.Test.YtohlaginanbclaaPlain3
namespace Go.Proofs.Ytohlaginanbclaa
open Go.RowKit

/-- The list that a slice of integers reads as. -/
def IntsAt (w : World) (v : Value) (zs : List Int) : Prop :=
  (zs = [] ∧ ∃ (a : Option Addr) (cap : Nat), v = .slice a 0 cap) ∨ ∃ zb off cap : Nat, v = .slice (some ⟨zb, off, none⟩) zs.length cap ∧ (0 < zs.length → zb < w.heap.size) ∧ ∀ i : Nat, i < zs.length → w.cell? ⟨zb, off + i, none⟩ = some (.int .i64 (zs.getD i 0))

def Held (w0 : World) (b : Nat) (C N S K Q o l : Int) (w : World) : Prop :=
  (w.cell? ⟨b, 0, none⟩ = some (.int .i64 C) ∧ w.cell? ⟨b, 1, none⟩ = some (.int .i64 N) ∧ w.cell? ⟨b, 2, none⟩ = some (.int .i64 S) ∧ w.cell? ⟨b, 3, none⟩ = some (.int .i64 K) ∧ w.cell? ⟨b, 4, none⟩ = some (.int .i64 Q) ∧ w.cell? ⟨b, 5, none⟩ = some (.int .i64 o) ∧ w.cell? ⟨b, 6, none⟩ = some (.int .i64 l)) ∧ b < w.heap.size ∧ w.frozen? ⟨b, 5, none⟩ = false ∧ w.frozen? ⟨b, 6, none⟩ = false ∧ Below w0.heap.size w0 w

theorem held_call {w0 wa wb : World} {b : Nat} {C N S K Q o l : Int} (h : Held w0 b C N S K Q o l wa) (hb : Below wa.heap.size wa wb) : Held w0 b C N S K Q o l wb := by
  obtain ⟨⟨h0, h1, h2, h3, h4, h5, h6⟩, hz, f5, f6, hl⟩ := h
  exact ⟨⟨(hb.cell (p := ⟨b, 0, none⟩) hz).trans h0, (hb.cell (p := ⟨b, 1, none⟩) hz).trans h1, (hb.cell (p := ⟨b, 2, none⟩) hz).trans h2, (hb.cell (p := ⟨b, 3, none⟩) hz).trans h3, (hb.cell (p := ⟨b, 4, none⟩) hz).trans h4, (hb.cell (p := ⟨b, 5, none⟩) hz).trans h5, (hb.cell (p := ⟨b, 6, none⟩) hz).trans h6⟩, Nat.lt_of_lt_of_le hz hb.size, (hb.frozen (p := ⟨b, 5, none⟩) hz).trans f5, (hb.frozen (p := ⟨b, 6, none⟩) hz).trans f6, below_call hb hl (Nat.le_refl _)⟩

theorem held_step {w0 wa : World} {b : Nat} {C N S K Q o l o' l' : Int} (h : Held w0 b C N S K Q o l wa) (hB : w0.heap.size ≤ b) : Held w0 b C N S K Q o' l' ((wa.setCell ⟨b, 5, none⟩ (.int .i64 o')).setCell ⟨b, 6, none⟩ (.int .i64 l')) := by
  obtain ⟨⟨h0, h1, h2, h3, h4, _, _⟩, hz, f5, f6, hl⟩ := h
  refine ⟨⟨?_, ?_, ?_, ?_, ?_, ?_, ?_⟩, ?_, ?_, ?_, below_set (below_set hl hB _) hB _⟩
  all_goals first | (simp [World.cell?_setCell_other, h0, h1, h2, h3, h4]; done) | (simp [World.setCell]; exact hz) | (simp [f5, f6]; done) | (go_simp; done)

/-- What holds at the head of each round of Run. -/
def RunRel (C N S K Q o0 l0 : Int) (zs : List Int) (w : World) (b : Nat) (i : Value) (wr : World) : Prop :=
  ∃ (k : Nat) (o l : Int), k ≤ zs.length ∧ i = .int .i64 k ∧ stB C N S o l = true ∧ Held w b C N S K Q o l wr ∧
    runN C N S K Q o0 l0 zs = (k + (runN C N S K Q o l (zs.drop k)).1, (runN C N S K Q o l (zs.drop k)).2)

theorem drop_at {zs : List Int} {k : Nat} (h : k < zs.length) : zs.drop k = zs.getD k 0 :: zs.drop (k + 1) := by
  rw [List.drop_eq_getElem_cons h]; simp [List.getD, h]

theorem runRel_next {C N S K Q o0 l0 o l x : Int} {zs : List Int} {k : Nat} (hx : zs.getD k 0 = x) (hk : k < zs.length) (h : runN C N S K Q o0 l0 zs = (k + (runN C N S K Q o l (zs.drop k)).1, (runN C N S K Q o l (zs.drop k)).2)) (ha : admE C N S K Q o l x = 0) :
    runN C N S K Q o0 l0 zs = (k + 1 + (runN C N S K Q (o + x) (l - x) (zs.drop (k + 1))).1, (runN C N S K Q (o + x) (l - x) (zs.drop (k + 1))).2) := by
  subst hx
  rw [h, drop_at hk, runN_yes ha]
  simp only [Prod.mk.injEq, and_true]
  omega
theorem runRel_stop {C N S K Q o0 l0 o l n : Int} {zs : List Int} {k : Nat} (hn : zs.getD k 0 = n) (hk : k < zs.length) (h : runN C N S K Q o0 l0 zs = (k + (runN C N S K Q o l (zs.drop k)).1, (runN C N S K Q o l (zs.drop k)).2)) {x : Int} (hx : x ≠ 0) (ha : admE C N S K Q o l n = x) :
    runN C N S K Q o0 l0 zs = (k, x) := by
  subst hn
  rw [h, drop_at hk, runN_no (by rw [ha]; exact hx), ha]; rfl
theorem runRel_end {C N S K Q o0 l0 o l : Int} {zs : List Int} {k : Nat} (hk : k = zs.length) (h : runN C N S K Q o0 l0 zs = (k + (runN C N S K Q o l (zs.drop k)).1, (runN C N S K Q o l (zs.drop k)).2)) :
    runN C N S K Q o0 l0 zs = (zs.length, 0) := by
  subst hk
  rw [h, List.drop_of_length_le (Nat.le_refl _)]; rfl

def RunRes (C N S K Q o l : Int) (zs : List Int) (w : World) (e : Ending) (w' : World) : Prop := Ret (.tuple #[.int .i64 (runN C N S K Q o l zs).1, .int .i64 (runN C N S K Q o l zs).2]) w e w'
theorem runRes_of {C N S K Q o l : Int} {zs : List Int} {w w' : World} {k : Nat} {x : Int} (h : runN C N S K Q o l zs = (k, x)) (hb : Below w.heap.size w w') : RunRes C N S K Q o l zs w (.returned (.tuple #[.int .i64 k, .int .i64 x])) w' := by
  unfold RunRes; rw [h]; exact ⟨rfl, hb⟩

set_option maxHeartbeats 2000000 in
theorem run_good (C N S K Q o0 l0 : Int) (zs : List Int) (w : World) (zb off cap : Nat) (hz : 0 < zs.length → zb < w.heap.size) (hcell : ∀ i : Nat, i < zs.length → w.cell? ⟨zb, off + i, none⟩ = some (.int .i64 (zs.getD i 0))) (hlen : zs.length ≤ 200)
    (hc : cfgB C N S K Q = true) (hs : stB C N S o0 l0 = true) :
    Calls Try.prog 12 #[.agg #[.int .i64 C, .int .i64 N, .int .i64 S, .int .i64 K, .int .i64 Q], .int .i64 o0, .int .i64 l0, .slice (some ⟨zb, off, none⟩) zs.length cap] w (RunRes C N S K Q o0 l0 zs w) := by
  have HC := Lib.hid hc
  have HS := Lib.hid hs
  have HZ := Lib.hid hcell
  have HZB := Lib.hid hz
  have hlt : ¬ (200 : Int) < (zs.length : Int) := by omega
  obtain ⟨⟨c1, c2⟩, ⟨n1, n2⟩, ⟨s1, s2⟩, ⟨_, _⟩, _, _⟩ := cfgB_true.1 hc
  obtain ⟨b1, b2⟩ := prod_bounds c1 c2 n1 n2
  clear hc hs hcell hz
  go_enter Try.func12, Try.ntmps12
  go_wp2_with (first | (go_at_call 29; refine (stCheck_yes _ _ _ _ _ _ _ _ HC.out HS.out).mono ?_; rintro e w1 ⟨rfl, hb1⟩; obtain ⟨hc1, hf1⟩ := bcell hb1))
  have hH : Held w (w.heap.size + 1) C N S K Q o0 l0 w1 := by
    refine ⟨⟨?_, ?_, ?_, ?_, ?_, ?_, ?_⟩, ?_, ?_, ?_, below_call hb1 (below_new (below_new (Below.refl _ _) (Nat.le_refl _) _) (Nat.le_refl _) _) (Nat.le_refl _)⟩
    all_goals first | (rw [hc1 _ _ (by simp)]; go_simp; done) | (rw [hf1 _ _ (by simp)]; go_simp; done) | (have := hb1.size; simp at this; omega)
  clear hc1 hf1 hb1
  go_loopw [29] (fun i wr => RunRel C N S K Q o0 l0 zs w (w.heap.size + 1) i wr) (fun i _ => zs.length - (intOf i).toNat)
  case atStart => exact ⟨0, o0, l0, Nat.zero_le _, rfl, HS.out, hH, by simp⟩
  case round =>
    obtain ⟨k, o, l, hk, rfl, hst, hheld, hrun⟩ := hrel
    have HR := Lib.hid hrun
    have HT := Lib.hid hst
    have HH := Lib.hid hheld
    obtain ⟨⟨g0, g1, g2, g3, g4, g5, g6⟩, gz, gf5, gf6, gb⟩ := hheld
    obtain ⟨⟨o1, o2⟩, l1, l2, l3⟩ := stB_true.1 hst
    clear hrun hst hH
    by_cases hkl : k < zs.length
    · have gc : _ := (gb.cell (p := ⟨zb, off + k, none⟩) (HZB.out (by omega))).trans (HZ.out k hkl)
      rcases admE_cases C N S K Q o l (zs.getD k 0) with ha | ha | ha | ha
      · obtain ⟨_, _, a1, a2, a3, a4, a5, a6, A7⟩ := adm_zero ha
        have HA := Lib.hid ha
        have H7 := Lib.hid A7
        clear ha A7
        generalize hx : zs.getD k 0 = x at *
        have HX := Lib.hid hx
        clear hx
        go_wp2_with (first | (go_at_call 30; refine (stAdmit_val _ HA.out).mono ?_; rintro e w2 ⟨rfl, hb2⟩; obtain ⟨⟨e0, e1, e2, e3, e4, e5, e6⟩, ez, ef5, ef6, eb⟩ := held_call HH.out hb2))
        exact ⟨⟨k + 1, o + x, l - x, by omega, by go_num, H7.out, held_step (held_call HH.out hb2) (by omega), runRel_next HX.out hkl HR.out HA.out⟩, by simp [intOf]; omega⟩
      · have HA := Lib.hid ha
        clear ha
        generalize hx : zs.getD k 0 = x at *
        have HX := Lib.hid hx
        clear hx
        go_wp2_with (first | (go_at_call 30; refine (stAdmit_val _ HA.out).mono ?_; rintro e w2 ⟨rfl, hb2⟩))
        go_ret2
        have hh := runRes_of (runRel_stop HX.out hkl HR.out (x := 5) (by decide) HA.out) (below_call hb2 gb (Nat.le_refl _))
        exact hh
      · have HA := Lib.hid ha
        clear ha
        generalize hx : zs.getD k 0 = x at *
        have HX := Lib.hid hx
        clear hx
        go_wp2_with (first | (go_at_call 30; refine (stAdmit_val _ HA.out).mono ?_; rintro e w2 ⟨rfl, hb2⟩))
        go_ret2
        have hh := runRes_of (runRel_stop HX.out hkl HR.out (x := 7) (by decide) HA.out) (below_call hb2 gb (Nat.le_refl _))
        exact hh
      · have HA := Lib.hid ha
        clear ha
        generalize hx : zs.getD k 0 = x at *
        have HX := Lib.hid hx
        clear hx
        go_wp2_with (first | (go_at_call 30; refine (stAdmit_val _ HA.out).mono ?_; rintro e w2 ⟨rfl, hb2⟩))
        go_ret2
        have hh := runRes_of (runRel_stop HX.out hkl HR.out (x := 11) (by decide) HA.out) (below_call hb2 gb (Nat.le_refl _))
        exact hh
    · have hke : k = zs.length := by omega
      have HE := Lib.hid hke
      clear hke
      go_wp2
      go_ret2
      have hh := runRes_of (runRel_end HE.out HR.out) gb
      exact hh

set_option maxHeartbeats 400000 in
theorem run_nil (C N S K Q o0 l0 : Int) (a : Option Addr) (cap : Nat) (w : World) (hc : cfgB C N S K Q = true) (hs : stB C N S o0 l0 = true) :
    Calls Try.prog 12 #[.agg #[.int .i64 C, .int .i64 N, .int .i64 S, .int .i64 K, .int .i64 Q], .int .i64 o0, .int .i64 l0, .slice a 0 cap] w (RunRes C N S K Q o0 l0 [] w) := by
  have HC := Lib.hid hc
  have HS := Lib.hid hs
  clear hc hs
  go_enter Try.func12, Try.ntmps12
  go_wp2_with (first | (go_at_call 29; refine (stCheck_yes _ _ _ _ _ _ _ _ HC.out HS.out).mono ?_; rintro e w1 ⟨rfl, hb1⟩))
  refine wp_loop_rounds 1 ?_
  rw [rounds_succ]
  go_wp2
  go_ret2
  exact ⟨rfl, by (repeat (first | exact Below.refl _ _ | (refine below_new ?_ (Nat.le_refl _) _) | (refine below_drewN ?_ _) | (refine Below.drew ?_) | (refine below_call (by assumption) ?_ (Nat.le_refl _)) | (refine below_set ?_ (by simp) _)))⟩

set_option maxHeartbeats 400000 in
theorem run_bad (C N S K Q o0 l0 : Int) (v : Value) (w : World) (h : (cfgB C N S K Q && stB C N S o0 l0) = false) :
    Calls Try.prog 12 #[.agg #[.int .i64 C, .int .i64 N, .int .i64 S, .int .i64 K, .int .i64 Q], .int .i64 o0, .int .i64 l0, v] w (Ret (.tuple #[.int .i64 0, .int .i64 7]) w) := by
  have H := Lib.hid h
  clear h
  go_enter Try.func12, Try.ntmps12
  go_wp2_with (first | (go_at_call 29; refine (stCheck_no _ _ _ _ _ _ _ _ H.out).mono ?_; rintro e w1 ⟨rfl, hb1⟩))
  go_ret2
  exact ⟨rfl, by (repeat (first | exact Below.refl _ _ | (refine below_new ?_ (Nat.le_refl _) _) | (refine below_drewN ?_ _) | (refine Below.drew ?_) | (refine below_call (by assumption) ?_ (Nat.le_refl _)) | (refine below_set ?_ (by simp) _)))⟩

set_option maxHeartbeats 400000 in
theorem run_long (C N S K Q o0 l0 : Int) (a : Option Addr) (len cap : Nat) (w : World) (hl : 200 < len) (hc : cfgB C N S K Q = true) (hs : stB C N S o0 l0 = true) :
    Calls Try.prog 12 #[.agg #[.int .i64 C, .int .i64 N, .int .i64 S, .int .i64 K, .int .i64 Q], .int .i64 o0, .int .i64 l0, .slice a len cap] w (Ret (.tuple #[.int .i64 0, .int .i64 3]) w) := by
  have HC := Lib.hid hc
  have HS := Lib.hid hs
  have hl' : (200 : Int) < (len : Int) := by omega
  clear hc hs
  go_enter Try.func12, Try.ntmps12
  go_wp2_with (first | (go_at_call 29; refine (stCheck_yes _ _ _ _ _ _ _ _ HC.out HS.out).mono ?_; rintro e w1 ⟨rfl, hb1⟩))
  go_ret2
  exact ⟨rfl, by (repeat (first | exact Below.refl _ _ | (refine below_new ?_ (Nat.le_refl _) _) | (refine below_drewN ?_ _) | (refine Below.drew ?_) | (refine below_call (by assumption) ?_ (Nat.le_refl _)) | (refine below_set ?_ (by simp) _)))⟩

/-- Run, in a good state, of at most 200 numbers. -/
theorem run_pub (C N S K Q o l : Int) (zs : List Int) (v : Value) (w : World) (hv : IntsAt w v zs) (hlen : zs.length ≤ 200) (hc : cfgB C N S K Q = true) (hs : stB C N S o l = true) :
    Calls Try.prog 12 #[.agg #[.int .i64 C, .int .i64 N, .int .i64 S, .int .i64 K, .int .i64 Q], .int .i64 o, .int .i64 l, v] w (RunRes C N S K Q o l zs w) := by
  rcases hv with ⟨rfl, a, cap, rfl⟩ | ⟨zb, off, cap, rfl, hz, hcell⟩
  · exact run_nil C N S K Q o l a cap w hc hs
  · exact run_good C N S K Q o l zs w zb off cap hz hcell hlen hc hs
end Go.Proofs.Ytohlaginanbclaa
