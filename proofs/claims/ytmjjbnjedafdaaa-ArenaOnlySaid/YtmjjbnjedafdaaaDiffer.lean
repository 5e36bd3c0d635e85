/-
  Walks: the reference's Check; Differ and its reference.
-/
import Derived.Test.YtmjjbnjedafdaaaSame
namespace Go.Proofs.Ytmjjbnjedafdaaa
open Go.RowKit
set_option maxHeartbeats 400000 in
theorem rcheck_long (a : Option Addr) (len cap : Nat) (w : World) (h : len < 1 ∨ 1601 < len) : Calls Try.prog 30 #[.slice a len cap] w fun e w' => e = .returned (.int .i64 3) ∧ w = w' := by
  have h' : len = 0 ∨ (1 ≤ len ∧ 1601 < len) := by omega
  clear h
  rcases h' with rfl | ⟨h1, h2⟩
  · go_enter Try.func30, Try.ntmps30
    go_wp2
    go_ret
    exact ⟨rfl, rfl⟩
  · have h3 : ¬ len < 1 := by omega
    have h4 : ¬ len = 0 := by omega
    go_enter Try.func30, Try.ntmps30
    go_wp2
    go_ret
    exact ⟨rfl, rfl⟩
set_option maxHeartbeats 400000 in
theorem rcheck_at (zb off len cap : Nat) (x : Int) (w : World) (h1 : 1 ≤ len) (h2 : len ≤ 1601) (hc : w.cell? ⟨zb, off, none⟩ = some (.int .u64 x)) : Calls Try.prog 30 #[.slice (some ⟨zb, off, none⟩) len cap] w fun e w' => e = .returned (.int .i64 (if x = 0 then 0 else 6)) ∧ w = w' := by
  have h3 : ¬ len < 1 := by omega
  have h4 : ¬ len = 0 := by omega
  have h5 : ¬ 1601 < len := by omega
  have h6 : 0 < len := by omega
  by_cases hx : x = 0
  · subst hx
    go_enter Try.func30, Try.ntmps30
    go_wp2
    go_ret
    exact ⟨rfl, rfl⟩
  · rw [if_neg hx]
    have t1 : (x != 0) = true := by simpa using hx
    go_enter Try.func30, Try.ntmps30
    go_wp2
    go_ret
    exact ⟨rfl, rfl⟩
theorem rcheck_any (zs : List Int) (v : Value) (w : World) (hv : Words w v zs) : Calls Try.prog 30 #[v] w fun e w' => e = .returned (.int .i64 (chkA zs)) ∧ w = w' := by
  unfold chkA
  rcases hv with ⟨rfl, a, cap, rfl⟩ | ⟨hp, zb, off, cap, rfl, _, _, hc⟩
  · exact rcheck_long a 0 cap w (by omega)
  · by_cases hl : 1601 < zs.length
    · rw [if_pos (by omega)]; exact rcheck_long _ _ _ w (by omega)
    · rw [if_neg (by omega)]; exact rcheck_at zb off zs.length cap _ w (by omega) (by omega) (hc 0 hp)

theorem rcheck_val {zs : List Int} {v : Value} {x : Int} (w : World) (hv : Words w v zs) (h : chkA zs = x) : Calls Try.prog 30 #[v] w fun e w' => e = .returned (.int .i64 x) ∧ w = w' := by
  rw [← h]; exact rcheck_any zs v w hv

/-- The words that are not equal, among the first k. -/
def difTo (zs ys : List Int) (k : Nat) : List Int := ((List.range k).filter (fun a => decide (zs.getD a 0 ≠ ys.getD a 0))).map Int.ofNat
theorem difTo_yes {zs ys : List Int} {k : Nat} (h : zs.getD k 0 ≠ ys.getD k 0) : difTo zs ys (k + 1) = difTo zs ys k ++ [(k : Int)] := by unfold difTo; rw [List.range_succ, List.filter_append]; simp only [List.map_append]; congr 1; rw [List.filter_cons_of_pos (by simpa using h)]; rfl
theorem difTo_no {zs ys : List Int} {k : Nat} (h : zs.getD k 0 = ys.getD k 0) : difTo zs ys (k + 1) = difTo zs ys k := by unfold difTo; rw [List.range_succ, List.filter_append, List.filter_cons_of_neg (by simpa using h)]; simp
theorem difTo_length (zs ys : List Int) (k : Nat) : (difTo zs ys k).length ≤ k := by unfold difTo; rw [List.length_map]; have := List.length_filter_le (fun a => decide (zs.getD a 0 ≠ ys.getD a 0)) (List.range k); rw [List.length_range] at this; exact this
theorem words_slice {w : World} {v : Value} {zs : List Int} (h : Words w v zs) : ∃ (a : Option Addr) (c : Nat), v = .slice a zs.length c := by
  rcases h with ⟨rfl, a, c, rfl⟩ | ⟨_, zb, off, c, rfl, _⟩
  · exact ⟨a, c, rfl⟩
  · exact ⟨_, c, rfl⟩
def difR (zs ys : List Int) : List Int × Int := if chkA zs ≠ 0 then ([], chkA zs) else if chkA ys ≠ 0 then ([], chkA ys) else if zs.length ≠ ys.length then ([], 6) else (difTo zs ys zs.length, 0)

def is (l : List Int) : List Value := l.map (Value.int .i64)
theorem is_append (a b : List Int) : is (a ++ b) = is a ++ is b := by simp [is]
def OwnI (w : World) (v : Value) (l : List Int) (w' : World) : Prop := w'.ownsRow w.heap.size 3 1 v l.length (is l)
theorem ownI_nil (w w' : World) : OwnI w (.slice none 0 0) [] w' := World.ownsRow_nil _ _ _ _
theorem ownI_below {w w' w1 : World} {v : Value} {l : List Int} (hb : Below w'.heap.size w' w1) (h : OwnI w v l w') : OwnI w v l w1 := by
  obtain ⟨h1, h2⟩ := h
  refine ⟨h1, ?_⟩
  rcases h2 with h2 | ⟨g, cap, cur, e1, e2, e3, e4⟩
  · exact .inl h2
  · exact .inr ⟨g, cap, cur, e1, e2, (hb.block g (lt_of_block e3)).trans e3, e4⟩
theorem ownI_nums {w w' : World} {v : Value} {l : List Int} (h : OwnI w v l w') : Nums w' v l := by
  obtain ⟨h1, ⟨rfl, h2⟩ | ⟨g, cap, cur, rfl, e2, e3, e4, e5, e6, e7⟩⟩ := h
  · exact .inl ⟨List.eq_nil_of_length_eq_zero h2, none, 0, rfl⟩
  · by_cases h0 : l.length = 0
    · have := List.eq_nil_of_length_eq_zero h0
      subst this
      exact .inl ⟨rfl, _, _, rfl⟩
    · refine .inr ⟨by omega, g, 0, cap, rfl, e4, lt_of_block e3, fun i hi => ?_⟩
      have hc : w'.cell? ⟨g, 0 + i, none⟩ = cur.toList[i]? := by rw [Nat.zero_add]; simp [World.cell?, e3]
      rw [hc, ← List.getElem?_take_of_lt (j := l.length) hi, ← Nat.mul_one l.length, e7]
      simp [is, List.getD, hi]
def DifPost (R : List Int × Int) (w : World) (e : Ending) (w' : World) : Prop := ∃ v : Value, e = .returned (.tuple #[v, .int .i64 R.2]) ∧ OwnI w v R.1 w' ∧ Below w.heap.size w w'
theorem info3 : (Try.prog.info? 3).map (fun i => (i.zero, i.size, i.bytes)) = some (some (.int .i64 0), 1, 8) := by kernel_rfl

set_option maxHeartbeats 1000000 in
theorem rdiffer_c1 (zs : List Int) (a b : Option Addr) (m c d : Nat) (x : Int) (w : World) (hv : Words w (.slice a zs.length c) zs) (hx : x ≠ 0) (h : chkA zs = x) : Calls Try.prog 23 #[.slice a zs.length c, .slice b m d] w (DifPost ([], x) w) := by
  have HV := Lib.hid hv
  have H := Lib.hid h
  have t1 : (x != 0) = true := by simpa using hx
  have t2 : (x == 0) = false := by simpa using hx
  clear hv h hx
  go_enter Try.func23, Try.ntmps23
  go_wp2_with (first | (go_at_call 30; refine (rcheck_val _ (words_below (by (repeat (first | exact Below.refl _ _ | (refine below_new ?_ (Nat.le_refl _) _) | (refine below_drewN ?_ _) | (refine Below.drew ?_) | (refine below_call (by assumption) ?_ (Nat.le_refl _)) | (refine below_set ?_ (by simp) _)))) HV.out) H.out).mono ?_; rintro e w1 ⟨rfl, rfl⟩))
  go_ret2
  exact ⟨_, rfl, ownI_nil _ _, by (repeat (first | exact Below.refl _ _ | (refine below_new ?_ (Nat.le_refl _) _) | (refine below_drewN ?_ _) | (refine Below.drew ?_) | (refine below_call (by assumption) ?_ (Nat.le_refl _)) | (refine below_set ?_ (by simp) _)))⟩

set_option maxHeartbeats 1000000 in
theorem rdiffer_c2 (zs ys : List Int) (a b : Option Addr) (c d : Nat) (x : Int) (w : World) (hv : Words w (.slice a zs.length c) zs) (hu : Words w (.slice b ys.length d) ys) (h1 : chkA zs = 0) (hx : x ≠ 0) (h2 : chkA ys = x) : Calls Try.prog 23 #[.slice a zs.length c, .slice b ys.length d] w (DifPost ([], x) w) := by
  have HV := Lib.hid hv
  have HU := Lib.hid hu
  have H1 := Lib.hid h1
  have H2 := Lib.hid h2
  have t1 : (x != 0) = true := by simpa using hx
  have t2 : (x == 0) = false := by simpa using hx
  clear hv hu h1 h2 hx
  go_enter Try.func23, Try.ntmps23
  go_wp2_with fail
  refine (rcheck_val _ (words_below (by (repeat (first | exact Below.refl _ _ | (refine below_new ?_ (Nat.le_refl _) _) | (refine below_drewN ?_ _) | (refine Below.drew ?_) | (refine below_call (by assumption) ?_ (Nat.le_refl _)) | (refine below_set ?_ (by simp) _)))) HV.out) H1.out).mono ?_
  rintro e w1 ⟨rfl, rfl⟩
  go_wp2_with fail
  refine (rcheck_val _ (words_below (by (repeat (first | exact Below.refl _ _ | (refine below_new ?_ (Nat.le_refl _) _) | (refine below_drewN ?_ _) | (refine Below.drew ?_) | (refine below_call (by assumption) ?_ (Nat.le_refl _)) | (refine below_set ?_ (by simp) _)))) HU.out) H2.out).mono ?_
  rintro e w2 ⟨rfl, rfl⟩
  go_wp2
  go_ret2
  exact ⟨_, rfl, ownI_nil _ _, by (repeat (first | exact Below.refl _ _ | (refine below_new ?_ (Nat.le_refl _) _) | (refine below_drewN ?_ _) | (refine Below.drew ?_) | (refine below_call (by assumption) ?_ (Nat.le_refl _)) | (refine below_set ?_ (by simp) _)))⟩

set_option maxHeartbeats 1000000 in
theorem rdiffer_len (zs ys : List Int) (a b : Option Addr) (c d : Nat) (w : World) (hv : Words w (.slice a zs.length c) zs) (hu : Words w (.slice b ys.length d) ys) (h1 : chkA zs = 0) (h2 : chkA ys = 0) (hl : ¬ zs.length = ys.length) : Calls Try.prog 23 #[.slice a zs.length c, .slice b ys.length d] w (DifPost ([], 6) w) := by
  have HV := Lib.hid hv
  have HU := Lib.hid hu
  have H1 := Lib.hid h1
  have H2 := Lib.hid h2
  have t1 : ((zs.length : Int) != (ys.length : Int)) = true := by simp; omega
  clear hv hu h1 h2 hl
  go_enter Try.func23, Try.ntmps23
  go_wp2_with fail
  refine (rcheck_val _ (words_below (by (repeat (first | exact Below.refl _ _ | (refine below_new ?_ (Nat.le_refl _) _) | (refine below_drewN ?_ _) | (refine Below.drew ?_) | (refine below_call (by assumption) ?_ (Nat.le_refl _)) | (refine below_set ?_ (by simp) _)))) HV.out) H1.out).mono ?_
  rintro e w1 ⟨rfl, rfl⟩
  go_wp2_with fail
  refine (rcheck_val _ (words_below (by (repeat (first | exact Below.refl _ _ | (refine below_new ?_ (Nat.le_refl _) _) | (refine below_drewN ?_ _) | (refine Below.drew ?_) | (refine below_call (by assumption) ?_ (Nat.le_refl _)) | (refine below_set ?_ (by simp) _)))) HU.out) H2.out).mono ?_
  rintro e w2 ⟨rfl, rfl⟩
  go_wp2
  go_ret2
  exact ⟨_, rfl, ownI_nil _ _, by (repeat (first | exact Below.refl _ _ | (refine below_new ?_ (Nat.le_refl _) _) | (refine below_drewN ?_ _) | (refine Below.drew ?_) | (refine below_call (by assumption) ?_ (Nat.le_refl _)) | (refine below_set ?_ (by simp) _)))⟩

set_option maxHeartbeats 4000000 in
theorem rdiffer_good (zs ys : List Int) (zb zo zc yb yo yc : Nat) (w : World) (hv : Words w (.slice (some ⟨zb, zo, none⟩) zs.length zc) zs) (hu : Words w (.slice (some ⟨yb, yo, none⟩) zs.length yc) ys) (h1 : chkA zs = 0) (h2 : chkA ys = 0) (hm : zs.length ≤ 1601) (hz : zb < w.heap.size) (hy : yb < w.heap.size) (hcz : ∀ i : Nat, i < zs.length → w.cell? ⟨zb, zo + i, none⟩ = some (.int .u64 (zs.getD i 0))) (hcy : ∀ i : Nat, i < zs.length → w.cell? ⟨yb, yo + i, none⟩ = some (.int .u64 (ys.getD i 0))) :
    Calls Try.prog 23 #[.slice (some ⟨zb, zo, none⟩) zs.length zc, .slice (some ⟨yb, yo, none⟩) zs.length yc] w (DifPost (difTo zs ys zs.length, 0) w) := by
  obtain ⟨i0, hi0, hz0, hz1, hz2⟩ := info_parts info3
  have HV := Lib.hid hv
  have HU := Lib.hid hu
  have H1 := Lib.hid h1
  have H2 := Lib.hid h2
  have HZ := Lib.hid hcz
  have HY := Lib.hid hcy
  clear hv hu h1 h2 hcz hcy
  go_enter Try.func23, Try.ntmps23
  go_wp2_with fail
  refine (rcheck_val _ (words_below (by (repeat (first | exact Below.refl _ _ | (refine below_new ?_ (Nat.le_refl _) _) | (refine below_drewN ?_ _) | (refine Below.drew ?_) | (refine below_call (by assumption) ?_ (Nat.le_refl _)) | (refine below_set ?_ (by simp) _)))) HV.out) H1.out).mono ?_
  rintro e w1 ⟨rfl, rfl⟩
  go_wp2_with fail
  refine (rcheck_val _ (words_below (by (repeat (first | exact Below.refl _ _ | (refine below_new ?_ (Nat.le_refl _) _) | (refine below_drewN ?_ _) | (refine Below.drew ?_) | (refine below_call (by assumption) ?_ (Nat.le_refl _)) | (refine below_set ?_ (by simp) _)))) HU.out) H2.out).mono ?_
  rintro e w2 ⟨rfl, rfl⟩
  go_wp2_with fail
  go_loopw [7, 8] (fun ov i wr => ∃ k : Nat, k ≤ zs.length ∧ i = .int .i64 k ∧ OwnI w ov (difTo zs ys k) wr ∧ Below w.heap.size w wr) (fun _ i _ => zs.length - (intOf i).toNat)
  case atStart => exact ⟨0, Nat.zero_le _, rfl, ownI_nil _ _, by (repeat (first | exact Below.refl _ _ | (refine below_new ?_ (Nat.le_refl _) _) | (refine below_drewN ?_ _) | (refine Below.drew ?_) | (refine below_call (by assumption) ?_ (Nat.le_refl _)) | (refine below_set ?_ (by simp) _)))⟩
  case round =>
    obtain ⟨k, hk, rfl, ho, hb⟩ := hrel
    have HO := Lib.hid ho
    clear ho
    by_cases hkl : k < zs.length
    · have g1 := (hb.cell (p := ⟨zb, zo + k, none⟩) hz).trans (HZ.out k hkl)
      have g2 := (hb.cell (p := ⟨yb, yo + k, none⟩) hy).trans (HY.out k hkl)
      have i1 : (0 : Int) ≤ (k : Int) := by omega
      have i2 : (k : Int) < (zs.length : Int) := by omega
      have hdl := difTo_length zs ys k
      generalize hx : zs.getD k 0 = x at *
      generalize hxy : ys.getD k 0 = y at *
      have HX := Lib.hid hx
      have HXY := Lib.hid hxy
      clear hx hxy
      by_cases he : x = y
      · subst he
        go_wp2_with fail
        go_quiet (fail)
        go_wp2
        exact ⟨⟨k + 1, by omega, by go_num, by rw [difTo_no (HX.out.trans HXY.out.symm)]; exact HO.out, below_drewN hb _⟩, by simp [intOf]; omega⟩
      · have t1 : (x != y) = true := by simpa using he
        have HN : Hid (difTo zs ys (k + 1) = difTo zs ys k ++ [(k : Int)]) := difTo_yes (by rw [HX.out, HXY.out]; exact he)
        have hm1 : (difTo zs ys k).length + 1 ≤ maxLen := by unfold maxLen; omega
        clear he
        go_wp2_with fail
        go_quiet (fail)
        have HO2 : Hid (OwnI w u7 (difTo zs ys k) (wr.drewN nq)) := HO.out
        have hb2 := below_drewN hb nq
        generalize wr.drewN nq = W at *
        have hbs := hb2.size
        go_wp2_with (at_builtin; refine wpList_append_own _ rfl _ _ 41 rfl w.heap.size 3 i0 (.int .i64 0) 1 8 Try.underlying41 hi0 hz0 hz1 hz2 rfl (by decide) u7 (difTo zs ys k).length (is (difTo zs ys k)) rfl (HO2.out.alloc _) ⟨W.heap.size, 0, none⟩ 1 1 [.int .i64 k] rfl rfl ?c1 ?c2 hm1 ?c4 ?c5 ?_)
        case c1 => intro j e9 hj; match j, hj with | 0, hj => simp at hj; subst hj; simp [Addr.add]
        case c2 => intro e9 he9; simp at he9; subst he9; rfl
        case c4 => omega
        case c5 => simp; omega
        intro v' w9 hown hgrow _
        have HOW := Lib.hid hown
        have hb9 : Below w.heap.size w w9 := (below_new hb2 (Nat.le_refl _) _).grown hgrow (by simp; omega) (fun j hj => (HO2.out.lt j hj).1)
        clear hown hgrow
        go_wp2
        refine ⟨⟨k + 1, by omega, by go_num, ?_, hb9⟩, by simp [intOf]; omega⟩
        have := HOW.out
        unfold OwnI
        rw [HN.out, is_append, List.length_append]
        exact this
    · have HKE : Hid (k = zs.length) := (by omega : k = zs.length)
      go_wp2
      go_ret2
      exact ⟨_, rfl, by rw [← HKE.out]; exact HO.out, hb⟩

theorem rdiffer_any (zs ys : List Int) (v u : Value) (w : World) (hv : Words w v zs) (hu : Words w u ys) : Calls Try.prog 23 #[v, u] w (DifPost (difR zs ys) w) := by
  unfold difR
  by_cases h1 : chkA zs = 0
  · rw [if_neg (by simpa using h1)]
    by_cases h2 : chkA ys = 0
    · rw [if_neg (by simpa using h2)]
      obtain ⟨l1, l2, _⟩ := chk_ok h1
      obtain ⟨m1, m2, _⟩ := chk_ok h2
      obtain ⟨zb, zo, zc, rfl, a1, a2, a3⟩ := words_some hv l1
      obtain ⟨yb, yo, yc, rfl, b1, b2, b3⟩ := words_some hu m1
      by_cases hl : zs.length = ys.length
      · rw [if_neg (by simpa using hl)]
        rw [← hl] at hu ⊢
        exact rdiffer_good zs ys zb zo zc yb yo yc w hv hu h1 h2 l2 a2 b2 a3 (fun i hi => b3 i (by omega))
      · rw [if_pos (by simpa using hl)]
        exact rdiffer_len zs ys _ _ _ _ w hv hu h1 h2 hl
    · rw [if_pos (by simpa using h2)]
      obtain ⟨a, c, rfl⟩ := words_slice hv
      obtain ⟨b, d, rfl⟩ := words_slice hu
      exact rdiffer_c2 zs ys a b c d _ w hv hu h1 h2 rfl
  · rw [if_pos (by simpa using h1)]
    obtain ⟨a, c, rfl⟩ := words_slice hv
    obtain ⟨b, d, rfl⟩ := words_slice hu
    exact rdiffer_c1 zs a b _ c d _ w hv h1 rfl

set_option maxHeartbeats 1000000 in
theorem differ_c1 (zs : List Int) (a b : Option Addr) (m c d : Nat) (x : Int) (w : World) (hv : Words w (.slice a zs.length c) zs) (hx : x ≠ 0) (h : chkA zs = x) : Calls Try.prog 18 #[.slice a zs.length c, .slice b m d] w (DifPost ([], x) w) := by
  have HV := Lib.hid hv
  have H := Lib.hid h
  have t1 : (x != 0) = true := by simpa using hx
  have t2 : (x == 0) = false := by simpa using hx
  clear hv h hx
  go_enter Try.func18, Try.ntmps18
  go_wp2_with fail
  refine wp_loop_rounds 3 ?_
  rw [rounds_succ]
  go_wp2_with (first | (go_at_call 29; refine (check_val _ (words_below (by (repeat (first | exact Below.refl _ _ | (refine below_new ?_ (Nat.le_refl _) _) | (refine below_drewN ?_ _) | (refine Below.drew ?_) | (refine below_call (by assumption) ?_ (Nat.le_refl _)) | (refine below_set ?_ (by simp) _)))) HV.out) H.out).mono ?_; rintro e w1 ⟨rfl, rfl⟩))
  go_ret2
  exact ⟨_, rfl, ownI_nil _ _, by (repeat (first | exact Below.refl _ _ | (refine below_new ?_ (Nat.le_refl _) _) | (refine below_drewN ?_ _) | (refine Below.drew ?_) | (refine below_call (by assumption) ?_ (Nat.le_refl _)) | (refine below_set ?_ (by simp) _)))⟩

set_option maxHeartbeats 1000000 in
theorem differ_c2 (zs ys : List Int) (a b : Option Addr) (c d : Nat) (x : Int) (w : World) (hv : Words w (.slice a zs.length c) zs) (hu : Words w (.slice b ys.length d) ys) (h1 : chkA zs = 0) (hx : x ≠ 0) (h2 : chkA ys = x) : Calls Try.prog 18 #[.slice a zs.length c, .slice b ys.length d] w (DifPost ([], x) w) := by
  have HV := Lib.hid hv
  have HU := Lib.hid hu
  have H1 := Lib.hid h1
  have H2 := Lib.hid h2
  have t1 : (x != 0) = true := by simpa using hx
  have t2 : (x == 0) = false := by simpa using hx
  clear hv hu h1 h2 hx
  go_enter Try.func18, Try.ntmps18
  go_wp2_with fail
  refine wp_loop_rounds 3 ?_
  rw [rounds_succ]
  go_wp2_with fail
  refine (check_val _ (words_below (by (repeat (first | exact Below.refl _ _ | (refine below_new ?_ (Nat.le_refl _) _) | (refine below_drewN ?_ _) | (refine Below.drew ?_) | (refine below_call (by assumption) ?_ (Nat.le_refl _)) | (refine below_set ?_ (by simp) _)))) HV.out) H1.out).mono ?_
  rintro e w1 ⟨rfl, rfl⟩
  go_wp2_with fail
  rw [rounds_succ]
  go_wp2_with fail
  refine (check_val _ (words_below (by (repeat (first | exact Below.refl _ _ | (refine below_new ?_ (Nat.le_refl _) _) | (refine below_drewN ?_ _) | (refine Below.drew ?_) | (refine below_call (by assumption) ?_ (Nat.le_refl _)) | (refine below_set ?_ (by simp) _)))) HU.out) H2.out).mono ?_
  rintro e w2 ⟨rfl, rfl⟩
  go_wp2
  go_ret2
  exact ⟨_, rfl, ownI_nil _ _, by (repeat (first | exact Below.refl _ _ | (refine below_new ?_ (Nat.le_refl _) _) | (refine below_drewN ?_ _) | (refine Below.drew ?_) | (refine below_call (by assumption) ?_ (Nat.le_refl _)) | (refine below_set ?_ (by simp) _)))⟩

set_option maxHeartbeats 1000000 in
theorem differ_len (zs ys : List Int) (a b : Option Addr) (c d : Nat) (w : World) (hv : Words w (.slice a zs.length c) zs) (hu : Words w (.slice b ys.length d) ys) (h1 : chkA zs = 0) (h2 : chkA ys = 0) (hl : ¬ zs.length = ys.length) : Calls Try.prog 18 #[.slice a zs.length c, .slice b ys.length d] w (DifPost ([], 6) w) := by
  have HV := Lib.hid hv
  have HU := Lib.hid hu
  have H1 := Lib.hid h1
  have H2 := Lib.hid h2
  have t1 : ((zs.length : Int) != (ys.length : Int)) = true := by simp; omega
  clear hv hu h1 h2 hl
  go_enter Try.func18, Try.ntmps18
  go_wp2_with fail
  refine wp_loop_rounds 3 ?_
  rw [rounds_succ]
  go_wp2_with fail
  refine (check_val _ (words_below (by (repeat (first | exact Below.refl _ _ | (refine below_new ?_ (Nat.le_refl _) _) | (refine below_drewN ?_ _) | (refine Below.drew ?_) | (refine below_call (by assumption) ?_ (Nat.le_refl _)) | (refine below_set ?_ (by simp) _)))) HV.out) H1.out).mono ?_
  rintro e w1 ⟨rfl, rfl⟩
  go_wp2_with fail
  rw [rounds_succ]
  go_wp2_with fail
  refine (check_val _ (words_below (by (repeat (first | exact Below.refl _ _ | (refine below_new ?_ (Nat.le_refl _) _) | (refine below_drewN ?_ _) | (refine Below.drew ?_) | (refine below_call (by assumption) ?_ (Nat.le_refl _)) | (refine below_set ?_ (by simp) _)))) HU.out) H2.out).mono ?_
  rintro e w2 ⟨rfl, rfl⟩
  go_wp2_with fail
  rw [rounds_succ]
  go_wp2
  go_ret2
  exact ⟨_, rfl, ownI_nil _ _, by (repeat (first | exact Below.refl _ _ | (refine below_new ?_ (Nat.le_refl _) _) | (refine below_drewN ?_ _) | (refine Below.drew ?_) | (refine below_call (by assumption) ?_ (Nat.le_refl _)) | (refine below_set ?_ (by simp) _)))⟩

set_option maxHeartbeats 4000000 in
theorem differ_good (zs ys : List Int) (zb zo zc yb yo yc : Nat) (w : World) (hv : Words w (.slice (some ⟨zb, zo, none⟩) zs.length zc) zs) (hu : Words w (.slice (some ⟨yb, yo, none⟩) zs.length yc) ys) (h1 : chkA zs = 0) (h2 : chkA ys = 0) (hm : zs.length ≤ 1601) (hz : zb < w.heap.size) (hy : yb < w.heap.size) (hcz : ∀ i : Nat, i < zs.length → w.cell? ⟨zb, zo + i, none⟩ = some (.int .u64 (zs.getD i 0))) (hcy : ∀ i : Nat, i < zs.length → w.cell? ⟨yb, yo + i, none⟩ = some (.int .u64 (ys.getD i 0))) :
    Calls Try.prog 18 #[.slice (some ⟨zb, zo, none⟩) zs.length zc, .slice (some ⟨yb, yo, none⟩) zs.length yc] w (DifPost (difTo zs ys zs.length, 0) w) := by
  obtain ⟨i0, hi0, hz0, hz1, hz2⟩ := info_parts info3
  have HV := Lib.hid hv
  have HU := Lib.hid hu
  have H1 := Lib.hid h1
  have H2 := Lib.hid h2
  have HZ := Lib.hid hcz
  have HY := Lib.hid hcy
  clear hv hu h1 h2 hcz hcy
  go_enter Try.func18, Try.ntmps18
  go_wp2_with fail
  refine wp_loop_rounds 3 ?_
  rw [rounds_succ]
  go_wp2_with fail
  refine (check_val _ (words_below (by (repeat (first | exact Below.refl _ _ | (refine below_new ?_ (Nat.le_refl _) _) | (refine below_drewN ?_ _) | (refine Below.drew ?_) | (refine below_call (by assumption) ?_ (Nat.le_refl _)) | (refine below_set ?_ (by simp) _)))) HV.out) H1.out).mono ?_
  rintro e w1 ⟨rfl, rfl⟩
  go_wp2_with fail
  rw [rounds_succ]
  go_wp2_with fail
  refine (check_val _ (words_below (by (repeat (first | exact Below.refl _ _ | (refine below_new ?_ (Nat.le_refl _) _) | (refine below_drewN ?_ _) | (refine Below.drew ?_) | (refine below_call (by assumption) ?_ (Nat.le_refl _)) | (refine below_set ?_ (by simp) _)))) HU.out) H2.out).mono ?_
  rintro e w2 ⟨rfl, rfl⟩
  go_wp2_with fail
  rw [rounds_succ]
  go_wp2_with fail
  go_loopw [9, 32] (fun ov i wr => ∃ k : Nat, k ≤ zs.length ∧ i = .int .i64 k ∧ OwnI w ov (difTo zs ys k) wr ∧ Below w.heap.size w wr) (fun _ i _ => zs.length - (intOf i).toNat)
  case atStart => exact ⟨0, Nat.zero_le _, rfl, ownI_nil _ _, by (repeat (first | exact Below.refl _ _ | (refine below_new ?_ (Nat.le_refl _) _) | (refine below_drewN ?_ _) | (refine Below.drew ?_) | (refine below_call (by assumption) ?_ (Nat.le_refl _)) | (refine below_set ?_ (by simp) _)))⟩
  case round =>
    obtain ⟨k, hk, rfl, ho, hb⟩ := hrel
    have HO := Lib.hid ho
    clear ho
    by_cases hkl : k < zs.length
    · have g1 := (hb.cell (p := ⟨zb, zo + k, none⟩) hz).trans (HZ.out k hkl)
      have g2 := (hb.cell (p := ⟨yb, yo + k, none⟩) hy).trans (HY.out k hkl)
      have i1 : (0 : Int) ≤ (k : Int) := by omega
      have i2 : (k : Int) < (zs.length : Int) := by omega
      have hdl := difTo_length zs ys k
      generalize hx : zs.getD k 0 = x at *
      generalize hxy : ys.getD k 0 = y at *
      have HX := Lib.hid hx
      have HXY := Lib.hid hxy
      clear hx hxy
      by_cases he : x = y
      · subst he
        go_wp2_with fail
        go_quiet (fail)
        go_wp2
        exact ⟨⟨k + 1, by omega, by go_num, by rw [difTo_no (HX.out.trans HXY.out.symm)]; exact HO.out, below_drewN hb _⟩, by simp [intOf]; omega⟩
      · have t1 : (x != y) = true := by simpa using he
        have HN : Hid (difTo zs ys (k + 1) = difTo zs ys k ++ [(k : Int)]) := difTo_yes (by rw [HX.out, HXY.out]; exact he)
        have hm1 : (difTo zs ys k).length + 1 ≤ maxLen := by unfold maxLen; omega
        clear he
        go_wp2_with fail
        go_quiet (fail)
        have HO2 : Hid (OwnI w u9 (difTo zs ys k) (wr.drewN nq)) := HO.out
        have hb2 := below_drewN hb nq
        generalize wr.drewN nq = W at *
        have hbs := hb2.size
        go_wp2_with (at_builtin; refine wpList_append_own _ rfl _ _ 41 rfl w.heap.size 3 i0 (.int .i64 0) 1 8 Try.underlying41 hi0 hz0 hz1 hz2 rfl (by decide) u9 (difTo zs ys k).length (is (difTo zs ys k)) rfl (HO2.out.alloc _) ⟨W.heap.size, 0, none⟩ 1 1 [.int .i64 k] rfl rfl ?c1 ?c2 hm1 ?c4 ?c5 ?_)
        case c1 => intro j e9 hj; match j, hj with | 0, hj => simp at hj; subst hj; simp [Addr.add]
        case c2 => intro e9 he9; simp at he9; subst he9; rfl
        case c4 => omega
        case c5 => simp; omega
        intro v' w9 hown hgrow _
        have HOW := Lib.hid hown
        have hb9 : Below w.heap.size w w9 := (below_new hb2 (Nat.le_refl _) _).grown hgrow (by simp; omega) (fun j hj => (HO2.out.lt j hj).1)
        clear hown hgrow
        go_wp2
        refine ⟨⟨k + 1, by omega, by go_num, ?_, hb9⟩, by simp [intOf]; omega⟩
        have := HOW.out
        unfold OwnI
        rw [HN.out, is_append, List.length_append]
        exact this
    · have HKE : Hid (k = zs.length) := (by omega : k = zs.length)
      go_wp2
      go_ret2
      exact ⟨_, rfl, by rw [← HKE.out]; exact HO.out, hb⟩

theorem differ_any (zs ys : List Int) (v u : Value) (w : World) (hv : Words w v zs) (hu : Words w u ys) : Calls Try.prog 18 #[v, u] w (DifPost (difR zs ys) w) := by
  unfold difR
  by_cases h1 : chkA zs = 0
  · rw [if_neg (by simpa using h1)]
    by_cases h2 : chkA ys = 0
    · rw [if_neg (by simpa using h2)]
      obtain ⟨l1, l2, _⟩ := chk_ok h1
      obtain ⟨m1, m2, _⟩ := chk_ok h2
      obtain ⟨zb, zo, zc, rfl, a1, a2, a3⟩ := words_some hv l1
      obtain ⟨yb, yo, yc, rfl, b1, b2, b3⟩ := words_some hu m1
      by_cases hl : zs.length = ys.length
      · rw [if_neg (by simpa using hl)]
        rw [← hl] at hu ⊢
        exact differ_good zs ys zb zo zc yb yo yc w hv hu h1 h2 l2 a2 b2 a3 (fun i hi => b3 i (by omega))
      · rw [if_pos (by simpa using hl)]
        exact differ_len zs ys _ _ _ _ w hv hu h1 h2 hl
    · rw [if_pos (by simpa using h2)]
      obtain ⟨a, c, rfl⟩ := words_slice hv
      obtain ⟨b, d, rfl⟩ := words_slice hu
      exact differ_c2 zs ys a b c d _ w hv hu h1 h2 rfl
  · rw [if_pos (by simpa using h1)]
    obtain ⟨a, c, rfl⟩ := words_slice hv
    obtain ⟨b, d, rfl⟩ := words_slice hu
    exact differ_c1 zs a b _ c d _ w hv h1 rfl
end Go.Proofs.Ytmjjbnjedafdaaa
