/-
  Walks of the layer arena: one, Set, Copy, Clear.
-/
import Derived.Test.YtmjjbnjedafdaaaPlayb
namespace Go.Proofs.Ytmjjbnjedafdaaa
open Go.RowKit

theorem words_below {w w1 : World} {v : Value} {zs : List Int} (hb : Below w.heap.size w w1) (h : Words w v zs) : Words w1 v zs := by
  rcases h with h | ⟨h0, zb, off, cap, e, h1, h2, h3⟩
  · exact .inl h
  · exact .inr ⟨h0, zb, off, cap, e, h1, Nat.lt_of_lt_of_le h2 hb.size, fun i hi => (hb.cell (p := ⟨zb, off + i, none⟩) h2).trans (h3 i hi)⟩
theorem own_below {w w' w1 : World} {v : Value} {l : List Int} (hb : Below w'.heap.size w' w1) (h : Own w v l w') : Own w v l w1 := by
  obtain ⟨h1, h2⟩ := h
  refine ⟨h1, ?_⟩
  rcases h2 with h2 | ⟨g, cap, cur, e1, e2, e3, e4⟩
  · exact .inl h2
  · exact .inr ⟨g, cap, cur, e1, e2, (hb.block g (lt_of_block e3)).trans e3, e4⟩
theorem own_base {w w0 w' : World} {v : Value} {l : List Int} (hw : w.heap.size ≤ w0.heap.size) (h : Own w0 v l w') : Own w v l w' := by
  obtain ⟨h1, h2⟩ := h
  refine ⟨h1, ?_⟩
  rcases h2 with h2 | ⟨g, cap, cur, e1, e2, e3⟩
  · exact .inl h2
  · exact .inr ⟨g, cap, cur, e1, Nat.le_trans hw e2, e3⟩
theorem own_words {w w' : World} {v : Value} {l : List Int} (h : Own w v l w') : Words w' v l := by
  obtain ⟨h1, ⟨rfl, h2⟩ | ⟨g, cap, cur, rfl, e2, e3, e4, e5, e6, e7⟩⟩ := h
  · exact .inl ⟨List.eq_nil_of_length_eq_zero h2, none, 0, rfl⟩
  · by_cases h0 : l.length = 0
    · have := List.eq_nil_of_length_eq_zero h0
      subst this
      exact .inl ⟨rfl, _, _, rfl⟩
    · refine .inr ⟨by omega, g, 0, cap, rfl, e4, lt_of_block e3, fun i hi => ?_⟩
      have hc : w'.cell? ⟨g, 0 + i, none⟩ = cur.toList[i]? := by rw [Nat.zero_add]; simp [World.cell?, e3]
      rw [hc, ← List.getElem?_take_of_lt (j := l.length) hi, ← Nat.mul_one l.length, e7, us_get _ _ hi]

/-- What one, Set, Copy and Clear hand back. -/
def OnePost (R : PR) (w : World) (e : Ending) (w' : World) : Prop := ∃ v : Value, e = .returned (.tuple #[v, .int .i64 R.e]) ∧ Own w v R.out w' ∧ Below w.heap.size w w'

set_option maxHeartbeats 1000000 in
theorem one_any (zs : List Int) (x : AOp) (v : Value) (w : World) (hv : Words w v zs) (hx : (Lit.int .i64 x.k).wf = true) :
    Calls Try.prog 36 #[v, x.val] w (OnePost (playR zs [x]) w) := by
  have HV := Lib.hid hv
  have HX := Lib.hid hx
  clear hv hx
  obtain ⟨k, a, b, n, u⟩ := x
  unfold AOp.val
  have HB : Hid (Below w.heap.size w ((w.alloc (.cells #[.int .i64 k, .int .i64 a, .int .i64 b, .int .i64 n, .int .u64 u] 35)).alloc (.cells #[.int .i64 k, .int .i64 a, .int .i64 b, .int .i64 n, .int .u64 u] 35))) := by
    show Below _ _ _
    (repeat (first | exact Below.refl _ _ | (refine below_new ?_ (Nat.le_refl _) _) | (refine below_drewN ?_ _) | (refine Below.drew ?_) | (refine below_call (by assumption) ?_ (Nat.le_refl _)) | (refine below_set ?_ (by simp) _)))
  go_enter Try.func36, Try.ntmps36
  go_wp2_with fail
  refine (play_pub zs [⟨k, a, b, n, u⟩] _ _ _ (words_below HB.out HV.out) ?_).mono ?_
  · refine ⟨fun y hy => by simp at hy; subst hy; exact HX.out, .inr ⟨by simp, w.heap.size + 1, 0, 1, rfl, by simp, by simp, fun i y hi => ?_⟩⟩
    obtain ⟨h1, h2⟩ := List.getElem?_eq_some_iff.1 hi
    obtain rfl : i = 0 := by simpa using h1
    simp at h2
    subst h2
    exact ⟨by simp, by simp, by simp, by simp, by simp⟩
  rintro e w1 ⟨v', gv, rfl, ho, _, hb⟩
  generalize playR zs [⟨k, a, b, n, u⟩] = R at *
  have HO := Lib.hid ho
  have HB1 := Lib.hid hb
  have hsz := hb.size
  simp at hsz
  clear ho hb
  go_wp2
  go_ret2
  refine ⟨v', rfl, own_below (below_new (Below.refl _ _) (Nat.le_refl _) _) (own_base (by simp; omega) HO.out), ?_⟩
  exact below_new (below_call HB1.out HB.out (Nat.le_refl _)) (Nat.le_refl _) _

set_option maxHeartbeats 400000 in
theorem set_pub (zs : List Int) (a u : Int) (v : Value) (w : World) (hv : Words w v zs) : Calls Try.prog 15 #[v, .int .i64 a, .int .u64 u] w (OnePost (playR zs [⟨2, a, 0, 0, u⟩]) w) := by
  have HV := Lib.hid hv
  clear hv
  go_enter Try.func15, Try.ntmps15
  go_wp2_with fail
  refine (one_any zs ⟨2, a, 0, 0, u⟩ _ _ HV.out (show (Lit.int .i64 2).wf = true by decide)).mono ?_
  rintro e w1 ⟨v', rfl, ho, hb⟩
  generalize playR zs [⟨2, a, 0, 0, u⟩] = R at *
  have HO := Lib.hid ho
  have HB1 := Lib.hid hb
  clear ho hb
  go_wp2
  go_ret2
  exact ⟨v', rfl, HO.out, HB1.out⟩

set_option maxHeartbeats 400000 in
theorem copy_pub (zs : List Int) (a b n : Int) (v : Value) (w : World) (hv : Words w v zs) : Calls Try.prog 16 #[v, .int .i64 a, .int .i64 b, .int .i64 n] w (OnePost (playR zs [⟨3, a, b, n, 0⟩]) w) := by
  have HV := Lib.hid hv
  clear hv
  go_enter Try.func16, Try.ntmps16
  go_wp2_with fail
  refine (one_any zs ⟨3, a, b, n, 0⟩ _ _ HV.out (show (Lit.int .i64 3).wf = true by decide)).mono ?_
  rintro e w1 ⟨v', rfl, ho, hb⟩
  generalize playR zs [⟨3, a, b, n, 0⟩] = R at *
  have HO := Lib.hid ho
  have HB1 := Lib.hid hb
  clear ho hb
  go_wp2
  go_ret2
  exact ⟨v', rfl, HO.out, HB1.out⟩

set_option maxHeartbeats 400000 in
theorem clear_pub (zs : List Int) (a n : Int) (v : Value) (w : World) (hv : Words w v zs) : Calls Try.prog 17 #[v, .int .i64 a, .int .i64 n] w (OnePost (playR zs [⟨4, a, 0, n, 0⟩]) w) := by
  have HV := Lib.hid hv
  clear hv
  go_enter Try.func17, Try.ntmps17
  go_wp2_with fail
  refine (one_any zs ⟨4, a, 0, n, 0⟩ _ _ HV.out (show (Lit.int .i64 4).wf = true by decide)).mono ?_
  rintro e w1 ⟨v', rfl, ho, hb⟩
  generalize playR zs [⟨4, a, 0, n, 0⟩] = R at *
  have HO := Lib.hid ho
  have HB1 := Lib.hid hb
  clear ho hb
  go_wp2
  go_ret2
  exact ⟨v', rfl, HO.out, HB1.out⟩

/-- What Get returns. -/
def getR (zs : List Int) (a : Int) : Int × Int := if chkA zs ≠ 0 then (0, chkA zs) else if partB zs.length a 1 then (zs.getD a.toNat 0, 0) else (0, 7)
theorem chk_ok {zs : List Int} (h : chkA zs = 0) : 1 ≤ zs.length ∧ zs.length ≤ 1601 ∧ zs.getD 0 0 = 0 := by
  unfold chkA at h
  by_cases h1 : zs.length < 1 ∨ 1601 < zs.length
  · rw [if_pos h1] at h; omega
  · rw [if_neg h1] at h
    by_cases h2 : zs.getD 0 0 = 0
    · exact ⟨by omega, by omega, h2⟩
    · rw [if_neg h2] at h; omega
theorem words_some {w : World} {v : Value} {zs : List Int} (h : Words w v zs) (h0 : 1 ≤ zs.length) : ∃ zb off cap : Nat, v = .slice (some ⟨zb, off, none⟩) zs.length cap ∧ zs.length ≤ cap ∧ zb < w.heap.size ∧ ∀ i : Nat, i < zs.length → w.cell? ⟨zb, off + i, none⟩ = some (.int .u64 (zs.getD i 0)) := by
  rcases h with ⟨rfl, _⟩ | ⟨_, h⟩
  · simp at h0
  · exact h
theorem check_val {zs : List Int} {v : Value} {x : Int} (w : World) (hv : Words w v zs) (h : chkA zs = x) : Calls Try.prog 29 #[v] w fun e w' => e = .returned (.int .i64 x) ∧ w = w' := by
  rw [← h]; exact check_any zs v w hv
set_option maxHeartbeats 1000000 in
theorem get_pub (zs : List Int) (a : Int) (v : Value) (w : World) (hv : Words w v zs) : Calls Try.prog 25 #[v, .int .i64 a] w fun e w' => e = .returned (.tuple #[.int .u64 (getR zs a).1, .int .i64 (getR zs a).2]) ∧ w = w' := by
  unfold getR
  have HV := Lib.hid hv
  by_cases hc : chkA zs = 0
  · rw [if_neg (by simpa using hc)]
    obtain ⟨l1, l2, l3⟩ := chk_ok hc
    obtain ⟨zb, off, cap, rfl, h1, h2, h3⟩ := words_some hv l1
    have HC := Lib.hid hc
    have H3 := Lib.hid h3
    clear hc hv l3 h3
    cases hp : partB zs.length a 1
    · rw [if_neg (by decide)]
      have HP := Lib.hid hp
      clear hp
      go_enter Try.func25, Try.ntmps25
      go_wp2_with (first | (go_at_call 29; refine (check_val _ HV.out HC.out).mono ?_; rintro e w1 ⟨rfl, rfl⟩) | (go_at_call 38; refine (part_no _ _ _ _ _ _ l2 HP.out).mono ?_; rintro e w1 ⟨rfl, rfl⟩))
      go_ret2
      exact ⟨rfl, rfl⟩
    · rw [if_pos rfl]
      obtain ⟨p1, p2, p3, p4⟩ := partB_true.1 hp
      obtain ⟨a, rfl⟩ := Int.eq_ofNat_of_zero_le (show 0 ≤ a by omega)
      rw [Int.toNat_natCast]
      have gc := H3.out a (by omega)
      clear hp
      generalize zs.getD a 0 = x at *
      go_enter Try.func25, Try.ntmps25
      go_wp2_with (first | (go_at_call 29; refine (check_val _ HV.out HC.out).mono ?_; rintro e w1 ⟨rfl, rfl⟩) | (go_at_call 38; refine (part_some _ _ _ _ _ 1 _ (by omega) (by omega) h1 l2 (by omega)).mono ?_; rintro e w1 ⟨rfl, rfl⟩))
      go_ret2
      exact ⟨rfl, rfl⟩
  · rw [if_pos (by simpa using hc)]
    have t1 : (chkA zs != 0) = true := by simpa using hc
    have HC : Hid (chkA zs = chkA zs) := rfl
    clear hc hv
    generalize hx : chkA zs = x at *
    have HX := Lib.hid hx
    clear hx HC
    go_enter Try.func25, Try.ntmps25
    go_wp2_with (first | (go_at_call 29; refine (check_val _ HV.out HX.out).mono ?_; rintro e w1 ⟨rfl, rfl⟩))
    go_ret2
    exact ⟨rfl, rfl⟩
end Go.Proofs.Ytmjjbnjedafdaaa
