/-
  Every run of ArenaLast answers true, whatever it is called with, and leaves what was there as it was: its walk, out of the contracts of the program.
-/
import Derived.Test.YtmjjbnjedafdaaaBefore
import Derived.Deep.RegionHeld3
import Derived.Outline
namespace Go.Proofs.Ytmjjbnjedafdaaa
open Go.ChangeShapes Go.WideShapes Go.ChangeAt Go.RowKit Go.Joins Go.Deep

set_option maxHeartbeats 1000000 in
theorem last_far (a b : Option Addr) (n c m d : Nat) (w : World) (h : 200 < n ∨ 60 < m) : Calls Try.prog 4 #[.slice a n c, .slice b m d] w (Ret (.bool true) w) := by
  have h' : 200 < n ∨ (¬ 200 < n ∧ 60 < m) := by omega
  clear h
  rcases h' with h1 | ⟨h1, h2⟩
  all_goals
    go_enter Try.func4, Try.ntmps4
    go_wp2_with (first | (go_at_call 10; refine (awake_any _).mono ?_; rintro e w1 ⟨rfl, hb1⟩))
    go_ret
    exact ⟨rfl, hb1⟩

theorem own_slice {w w' : World} {v : Value} {l : List Int} (h : Own w v l w') : v = .slice none 0 0 ∧ l = [] ∨ ∃ g cap, v = .slice (some ⟨g, 0, none⟩) l.length cap ∧ g < w'.heap.size ∧ ∀ i, i < l.length → w'.cell? ⟨g, i, none⟩ = some (.int .u64 (l.getD i 0)) := by
  obtain ⟨h1, ⟨rfl, h2⟩ | ⟨g, cap, cur, rfl, e2, e3, e4, e5, e6, e7⟩⟩ := h
  · exact .inl ⟨rfl, List.eq_nil_of_length_eq_zero h2⟩
  · refine .inr ⟨g, cap, rfl, lt_of_block e3, fun i hi => ?_⟩
    have hc : w'.cell? ⟨g, i, none⟩ = cur.toList[i]? := by simp [World.cell?, e3]
    rw [hc, ← List.getElem?_take_of_lt (j := l.length) hi, ← Nat.mul_one l.length, e7, us_get _ _ hi]

set_option maxRecDepth 100000 in
set_option maxHeartbeats 2000000 in
theorem last_err (zs : List Int) (xs : List AOp) (a b : Option Addr) (c d : Nat) (R : PR) (w : World) (hv : Words w (.slice a zs.length c) zs) (hx : OpsAt w (.slice b xs.length d) xs) (hn : zs.length ≤ 200) (hm : xs.length ≤ 60) (hR : playR zs xs = R) (he : R.e ≠ 0) (h1 : R.out = []) (h2 : R.got = []) : Calls Try.prog 4 #[.slice a zs.length c, .slice b xs.length d] w (Ret (.bool true) w) := by
  have HV := Lib.hid hv
  have HX := Lib.hid hx
  have HR := Lib.hid hR
  obtain ⟨o1, g1, r1, c1, i1, e1⟩ := R
  simp only at he h1 h2
  subst h1
  subst h2
  have t1 : ¬ 200 < zs.length := by omega
  have t2 : ¬ 60 < xs.length := by omega
  have t3 : (e1 != 0) = true := by simpa using he
  clear hv hx hR he
  go_enter Try.func4, Try.ntmps4
  go_wp2_with fail
  refine (play_val _ HV.out HX.out HR.out).mono ?_
  rintro e q1 ⟨vv1, vg1, rfl, ov, og, hb⟩
  have BB1 : Hid (Below w.heap.size w (q1.alloc (.cells #[.int .i64 r1, .int .i64 c1] 26))) := below_new hb (Nat.le_refl _) _
  rcases own_slice ov with ⟨rfl, _⟩ | ⟨g, cp, rfl, _, _⟩
  all_goals rcases own_slice og with ⟨rfl, _⟩ | ⟨g', cp', rfl, _, _⟩
  all_goals
    clear ov og hb
    simp only [List.length_nil]
    go_wp2_with fail
    refine (awake_any _).mono ?_
    rintro e wz ⟨rfl, hb⟩
    have BZ := Lib.hid (below_call hb BB1.out (Nat.le_refl _))
    clear hb
    go_wp2
    go_ret
    exact ⟨rfl, BZ.out⟩

set_option maxHeartbeats 1000000 in
theorem before_none (zs : List Int) (a0 zb off cap lc : Nat) (la : Option Addr) (w : World) (ha : a0 < zs.length) (hzc : ∀ i : Nat, i < zs.length → w.cell? ⟨zb, off + i, none⟩ = some (.int .u64 (zs.getD i 0))) :
    Calls Try.prog 14 #[.slice (some ⟨zb, off, none⟩) zs.length cap, .slice la 0 lc, .int .i64 0, .int .i64 a0] w (Ret (.int .u64 (zs.getD a0 0)) w) := by
  have gc := hzc a0 ha
  clear hzc
  generalize zs.getD a0 0 = y at *
  go_enter Try.func14, Try.ntmps14
  go_wp2_with fail
  refine wp_loop_rounds 1 ?_
  rw [rounds_succ]
  go_wp2
  go_ret
  exact ⟨rfl, Below.refl _ _⟩

theorem sv_call {w1 W w2 : World} {g k : Nat} {y : Int} (hb : Below W.heap.size W w2) (h : W.cell? ⟨g, k, none⟩ = some (.int .u64 y) ∧ g < W.heap.size ∧ Below w1.heap.size w1 W) : w2.cell? ⟨g, k, none⟩ = some (.int .u64 y) ∧ g < w2.heap.size ∧ Below w1.heap.size w1 w2 :=
  ⟨(hb.cell (p := ⟨g, k, none⟩) h.2.1).trans h.1, Nat.lt_of_lt_of_le h.2.1 hb.size, below_call hb h.2.2 (Nat.le_refl _)⟩
theorem sv_drew {w1 W : World} {g k : Nat} {y : Int} (h : W.cell? ⟨g, k, none⟩ = some (.int .u64 y) ∧ g < W.heap.size ∧ Below w1.heap.size w1 W) : W.drew.cell? ⟨g, k, none⟩ = some (.int .u64 y) ∧ g < W.drew.heap.size ∧ Below w1.heap.size w1 W.drew := ⟨h.1, h.2.1, h.2.2.drew⟩

theorem sw_call {w1 W w2 : World} {g k l j : Nat} {y x : Int} (hb : Below W.heap.size W w2) (h : W.cell? ⟨g, k, none⟩ = some (.int .u64 y) ∧ g < W.heap.size ∧ W.cell? ⟨l, j, none⟩ = some (.int .i64 x) ∧ l < W.heap.size ∧ Below w1.heap.size w1 W) : w2.cell? ⟨g, k, none⟩ = some (.int .u64 y) ∧ g < w2.heap.size ∧ w2.cell? ⟨l, j, none⟩ = some (.int .i64 x) ∧ l < w2.heap.size ∧ Below w1.heap.size w1 w2 :=
  ⟨(hb.cell (p := ⟨g, k, none⟩) h.2.1).trans h.1, Nat.lt_of_lt_of_le h.2.1 hb.size, (hb.cell (p := ⟨l, j, none⟩) h.2.2.2.1).trans h.2.2.1, Nat.lt_of_lt_of_le h.2.2.2.1 hb.size, below_call hb h.2.2.2.2 (Nat.le_refl _)⟩
theorem sw_drew {w1 W : World} {g k l j : Nat} {y x : Int} (h : W.cell? ⟨g, k, none⟩ = some (.int .u64 y) ∧ g < W.heap.size ∧ W.cell? ⟨l, j, none⟩ = some (.int .i64 x) ∧ l < W.heap.size ∧ Below w1.heap.size w1 W) : W.drew.cell? ⟨g, k, none⟩ = some (.int .u64 y) ∧ g < W.drew.heap.size ∧ W.drew.cell? ⟨l, j, none⟩ = some (.int .i64 x) ∧ l < W.drew.heap.size ∧ Below w1.heap.size w1 W.drew := ⟨h.1, h.2.1, h.2.2.1, h.2.2.2.1, h.2.2.2.2.drew⟩
theorem sw_below {w1 W : World} {g k l j : Nat} {y x : Int} (h : W.cell? ⟨g, k, none⟩ = some (.int .u64 y) ∧ g < W.heap.size ∧ W.cell? ⟨l, j, none⟩ = some (.int .i64 x) ∧ l < W.heap.size ∧ Below w1.heap.size w1 W) : Below w1.heap.size w1 W := h.2.2.2.2

set_option maxRecDepth 100000 in
set_option maxHeartbeats 8000000 in
theorem last_mm (zs : List Int) (xs : List AOp) (zb off cap lc : Nat) (lb lo : Nat) (o1 g1 : List Int) (r1 c1 : Int) (w : World) (hv : Words w (.slice (some ⟨zb, off, none⟩) zs.length cap) zs) (hz : zb < w.heap.size) (hzc : ∀ i : Nat, i < zs.length → w.cell? ⟨zb, off + i, none⟩ = some (.int .u64 (zs.getD i 0))) (hx : OpsAt w (.slice (some ⟨lb, lo, none⟩) xs.length lc) xs) (hlb : lb < w.heap.size) (hxx : ∀ (i : Nat) (x : AOp), xs[i]? = some x → w.cell? ⟨lb, lo + i * 5, none⟩ = some (.int .i64 x.k) ∧ w.cell? ⟨lb, lo + i * 5 + 1, none⟩ = some (.int .i64 x.a) ∧ w.cell? ⟨lb, lo + i * 5 + 2, none⟩ = some (.int .i64 x.b) ∧ w.cell? ⟨lb, lo + i * 5 + 3, none⟩ = some (.int .i64 x.n) ∧ w.cell? ⟨lb, lo + i * 5 + 4, none⟩ = some (.int .u64 x.v)) (hn : zs.length ≤ 200) (hm : xs.length ≤ 60) (hpos : 0 < zs.length) (hR : playR zs xs = ⟨o1, g1, r1, c1, 0, 0⟩) (hP : plays zs [] 0 0 0 xs = ⟨o1, g1, r1, c1, 0, 0⟩) (hg1 : 0 < g1.length) : Calls Try.prog 4 #[.slice (some ⟨zb, off, none⟩) zs.length cap, .slice (some ⟨lb, lo, none⟩) xs.length lc] w (Ret (.bool true) w) := by
  have HV := Lib.hid hv
  have HX := Lib.hid hx
  have HR := Lib.hid hR
  have HP := Lib.hid hP
  have HE : Hid ((plays zs [] 0 0 0 xs).e = 0) := by show _ = _; rw [hP]
  have HLN : Hid (o1.length = zs.length) := by have := plays_length xs zs [] 0 0 0 (by rw [hP]); rw [hP] at this; exact this
  have HO : Hid (seqS zs xs xs.length = o1) := by show (plays zs [] 0 0 0 (List.take _ _)).out = o1; rw [List.take_of_length_le (Nat.le_refl _), hP]
  have HGG : Hid (seqG zs xs xs.length = g1) := by show (plays zs [] 0 0 0 (List.take _ _)).got = g1; rw [List.take_of_length_le (Nat.le_refl _), hP]
  have t1 : ¬ 200 < zs.length := by omega
  have t2 : ¬ 60 < xs.length := by omega
  have BEF : Hid (∀ (W : World) (n a0 : Nat), Below w.heap.size w W → n ≤ xs.length → a0 < zs.length → Calls Try.prog 14 #[.slice (some ⟨zb, off, none⟩) zs.length cap, .slice (some ⟨lb, lo, none⟩) xs.length lc, .int .i64 n, .int .i64 a0] W (Ret (.int .u64 ((seqS zs xs n).getD a0 0)) W)) := fun W n a0 hb h1 h2 => before_some zs xs n a0 zb off cap lb lo lc W HE.out h1 (by omega) h2 (by omega) (Nat.lt_of_lt_of_le hz hb.size) (fun i hi => (hb.cell (p := ⟨zb, off + i, none⟩) hz).trans (hzc i hi)) (Nat.lt_of_lt_of_le hlb hb.size) (fun i x hi => by
    obtain ⟨d0, d1, d2, d3, d4⟩ := hxx i x hi
    exact ⟨(hb.cell (p := ⟨lb, lo + i * 5, none⟩) hlb).trans d0, (hb.cell (p := ⟨lb, lo + i * 5 + 1, none⟩) hlb).trans d1, (hb.cell (p := ⟨lb, lo + i * 5 + 2, none⟩) hlb).trans d2, (hb.cell (p := ⟨lb, lo + i * 5 + 3, none⟩) hlb).trans d3, (hb.cell (p := ⟨lb, lo + i * 5 + 4, none⟩) hlb).trans d4⟩)
  have HXX := Lib.hid hxx
  clear hxx
  have hgl : g1.length ≤ 60 := by
    have h7 := (plays_bounds xs zs [] 0 0 0 (by omega) HE.out).2.2.2.2
    rw [hP] at h7
    simp at h7
    omega
  clear hv hx hR hP hzc
  go_enter Try.func4, Try.ntmps4
  go_wp2_with fail
  refine (play_val _ HV.out HX.out HR.out).mono ?_
  rintro e q1 ⟨vv1, vg1, rfl, ov, og, hb⟩
  have hnn := new_below q1 (.cells #[.int .i64 r1, .int .i64 c1] 26)
  have BB1 : Hid (Below w.heap.size w (q1.alloc (.cells #[.int .i64 r1, .int .i64 c1] 26))) := below_new hb (Nat.le_refl _) _
  rcases own_slice (own_below hnn ov) with ⟨_, h9⟩ | ⟨vg, vcp, rfl, vz, VC⟩
  · exfalso
    have h8 : o1.length = 0 := by have := congrArg List.length h9; simpa using this
    have := HLN.out
    omega
  have HVC := Lib.hid VC
  rcases own_slice (own_below hnn og) with ⟨_, h9⟩ | ⟨gg, gcp, rfl, gz, GC⟩
  · exfalso
    have h8 : g1.length = 0 := by have := congrArg List.length h9; simpa using this
    omega
  have HGC := Lib.hid GC
  clear GC
  simp only
  rw [HLN.out]
  clear VC ov og hb hnn
  go_wp2_with fail
  generalize q1.heap.size = cb at *
  generalize q1.alloc (.cells #[.int .i64 r1, .int .i64 c1] 26) = w1 at *
  go_loopw [10] (fun i wr => ∃ k : Nat, k ≤ zs.length ∧ i = .int .i64 k ∧ Below w1.heap.size w1 wr) (fun i _ => zs.length - (intOf i).toNat)
  case atStart => exact ⟨0, Nat.zero_le _, rfl, Below.refl _ _⟩
  case round =>
    obtain ⟨k, hk, rfl, hb⟩ := hrel
    by_cases hkl : k < zs.length
    · have HVK : Hid (o1.getD k 0 = o1.getD k 0) := rfl
      have g1' := (hb.cell (p := ⟨vg, k, none⟩) vz).trans (HVC.out k (by show k < o1.length; rw [HLN.out]; exact hkl))
      have HBK : Hid ((seqS zs xs xs.length).getD k 0 = o1.getD k 0) := by show _ = _; rw [HO.out]
      have i1 : (0 : Int) ≤ (k : Int) := by omega
      have i2 : (k : Int) < (zs.length : Int) := by omega
      have hS : wr.cell? ⟨vg, k, none⟩ = some (.int .u64 (o1.getD k 0)) ∧ vg < wr.heap.size ∧ Below w1.heap.size w1 wr := ⟨g1', Nat.lt_of_lt_of_le vz hb.size, hb⟩
      generalize o1.getD k 0 = y at *
      clear g1'
      have BC5 : Hid (∀ W : World, (W.cell? ⟨vg, k, none⟩ = some (.int .u64 y) ∧ vg < W.heap.size ∧ Below w1.heap.size w1 W) → Calls Try.prog 14 #[.slice (some ⟨zb, off, none⟩) zs.length cap, .slice (some ⟨lb, lo, none⟩) xs.length lc, .int .i64 xs.length, .int .i64 k] W (Ret (.int .u64 ((seqS zs xs xs.length).getD k 0)) W)) := fun W hW => BEF.out W xs.length k (below_call hW.2.2 BB1.out (Nat.le_refl _)) (Nat.le_refl _) hkl
      go_wp2_with fail
      go_region_held3 (fun w' => w'.cell? ⟨vg, k, none⟩ = some (.int .u64 y) ∧ vg < w'.heap.size ∧ Below w1.heap.size w1 w') (first | exact sv_drew hS | exact sv_call (by with_reducible assumption) (by with_reducible assumption))
        (first | (go_at_call 14; refine (BC5.out _ (by with_reducible assumption)).mono ?_; rw [HBK.out]; rintro e w5 ⟨rfl, hb5⟩))
      have R5 : w5.cell? ⟨vg, k, none⟩ = some (.int .u64 y) ∧ vg < w5.heap.size ∧ Below w1.heap.size w1 w5 := by with_reducible assumption
      go_wp2
      exact ⟨⟨k + 1, by omega, by go_num, R5.2.2⟩, by simp [intOf]; omega⟩
    · have BBR := Lib.hid (below_call hb BB1.out (Nat.le_refl _))
      go_wp2_with fail
      go_loopw [11, 12] (fun nv i wr2 => ∃ m : Nat, m ≤ xs.length ∧ i = .int .i64 m ∧ nv = .int .i64 ((seqG zs xs m).length : Int) ∧ Below w1.heap.size w1 wr2) (fun _ i _ => xs.length - (intOf i).toNat)
      case atStart => exact ⟨0, Nat.zero_le _, rfl, by rw [(seq_zero zs xs).2]; rfl, hb⟩
      case round =>
        clear hb BBR hk hkl
        obtain ⟨m, hm', rfl, rfl, hb2⟩ := hrel
        by_cases hml : m < xs.length
        · obtain ⟨x, hxk⟩ : ∃ x, xs[m]? = some x := ⟨xs[m], by simp [hml]⟩
          obtain ⟨d0, d1, _, _, _⟩ := HXX.out m x hxk
          obtain ⟨q1, _, q3, q4⟩ := seq_step HE.out hxk
          have hbw := below_call hb2 BB1.out (Nat.le_refl _)
          have y0 := (hbw.cell (p := ⟨lb, lo + m * 5, none⟩) hlb).trans d0
          have y1 := (hbw.cell (p := ⟨lb, lo + m * 5 + 1, none⟩) hlb).trans d1
          have lbz := Nat.lt_of_lt_of_le hlb hbw.size
          clear d0 d1 hxk
          obtain ⟨xk, xa, xb, xn, xv⟩ := x
          simp only at y0 y1
          by_cases k1 : xk = 1
          · subst k1
            obtain ⟨p1, p2, _, p4⟩ := partB_true.1 (show partB (seqS zs xs m).length xa 1 = true from by
              cases hp : partB (seqS zs xs m).length xa 1
              · simp [opE, hp] at q1
              · rfl)
            obtain ⟨a1, rfl⟩ := Int.eq_ofNat_of_zero_le (show 0 ≤ xa by omega)
            obtain ⟨G', hG⟩ := seq_got HE.out (m + 1)
            rw [HP.out, q3] at hG
            simp only [opGot, if_pos, Int.toNat_natCast] at hG
            have hlen : (seqG zs xs m).length < g1.length := by have := congrArg List.length hG; simp at this; omega
            have hval : g1.getD (seqG zs xs m).length 0 = (seqS zs xs m).getD a1 0 := by rw [hG]; simp [List.getD]
            have HA : Hid (∀ W : World, Below w1.heap.size w1 W → Calls Try.prog 14 #[.slice (some ⟨zb, off, none⟩) zs.length cap, .slice (some ⟨lb, lo, none⟩) xs.length lc, .int .i64 m, .int .i64 a1] W (Ret (.int .u64 ((seqS zs xs m).getD a1 0)) W)) := fun W hW => BEF.out W m a1 (below_call hW BB1.out (Nat.le_refl _)) (by omega) (by omega)
            have gcell := (hb2.cell (p := ⟨gg, (seqG zs xs m).length, none⟩) gz).trans (HGC.out _ hlen)
            rw [hval] at gcell
            have N1 : Hid ((seqG zs xs (m + 1)).length = (seqG zs xs m).length + 1) := by show _ = _; rw [q3]; simp [opGot]
            clear hG hval q1 q3 q4
            generalize (seqS zs xs m).getD a1 0 = y at *
            generalize (seqG zs xs m).length = L at *
            have j1 : decide (g1.length ≤ L) = false := by simp; omega
            have j1' : decide ((g1.length : Int) ≤ (L : Int)) = false := by simp; omega
            have j2 : (0 : Int) ≤ (L : Int) := by omega
            have j6 : L ≤ 60 := by omega
            have j3 : (L : Int) < (g1.length : Int) := by omega
            have j4 : (0 : Int) ≤ (m : Int) := by omega
            have j5 : (m : Int) < (xs.length : Int) := by omega
            have hS2 : wr.cell? ⟨gg, L, none⟩ = some (.int .u64 y) ∧ gg < wr.heap.size ∧ wr.cell? ⟨lb, lo + m * 5 + 1, none⟩ = some (.int .i64 a1) ∧ lb < wr.heap.size ∧ Below w1.heap.size w1 wr := ⟨gcell, Nat.lt_of_lt_of_le gz hb2.size, y1, Nat.lt_of_lt_of_le hlb hbw.size, hb2⟩
            clear gcell
            go_wp2_with fail
            go_region_held3 (fun w' => w'.cell? ⟨gg, L, none⟩ = some (.int .u64 y) ∧ gg < w'.heap.size ∧ w'.cell? ⟨lb, lo + m * 5 + 1, none⟩ = some (.int .i64 a1) ∧ lb < w'.heap.size ∧ Below w1.heap.size w1 w') (first | exact sw_drew hS2 | exact sw_call (by with_reducible assumption) (by with_reducible assumption))
              (first | (go_at_call 14; refine (HA.out _ (sw_below (by with_reducible assumption))).mono ?_; rintro e w7 ⟨rfl, hb7⟩))
            have R7 : w7.cell? ⟨gg, L, none⟩ = some (.int .u64 y) ∧ gg < w7.heap.size ∧ w7.cell? ⟨lb, lo + m * 5 + 1, none⟩ = some (.int .i64 a1) ∧ lb < w7.heap.size ∧ Below w1.heap.size w1 w7 := by with_reducible assumption
            go_wp2
            exact ⟨⟨m + 1, by omega, by go_num, by rw [N1.out]; go_num, R7.2.2.2.2⟩, by simp [intOf]; omega⟩
          · have b1 : (xk != 1) = true := by simpa using k1
            have N0 : Hid ((seqG zs xs (m + 1)).length = (seqG zs xs m).length) := by show _ = _; rw [q3]; simp [opGot, k1]
            have j4 : (0 : Int) ≤ (m : Int) := by omega
            have j5 : (m : Int) < (xs.length : Int) := by omega
            clear q1 q3 q4 k1
            go_wp2
            exact ⟨⟨m + 1, by omega, by go_num, by rw [N0.out], hb2⟩, by simp [intOf]; omega⟩
        · have tn : (((seqG zs xs m).length : Int) == (g1.length : Int)) = true := by have := HGG.out; rw [show m = xs.length by omega, this]; simp
          go_wp2_with fail
          refine (awake_any _).mono ?_
          rintro e wz ⟨rfl, hbz⟩
          have BZ := Lib.hid (below_call hbz (below_call hb2 BB1.out (Nat.le_refl _)) (Nat.le_refl _))
          clear hbz
          go_wp2
          go_ret
          exact ⟨rfl, BZ.out⟩

set_option maxRecDepth 100000 in
set_option maxHeartbeats 8000000 in
theorem last_nm (zs : List Int) (xs : List AOp) (zb off cap lc : Nat) (lb lo : Nat) (o1 g1 : List Int) (r1 c1 : Int) (w : World) (hv : Words w (.slice (some ⟨zb, off, none⟩) zs.length cap) zs) (hz : zb < w.heap.size) (hzc : ∀ i : Nat, i < zs.length → w.cell? ⟨zb, off + i, none⟩ = some (.int .u64 (zs.getD i 0))) (hx : OpsAt w (.slice (some ⟨lb, lo, none⟩) xs.length lc) xs) (hlb : lb < w.heap.size) (hxx : ∀ (i : Nat) (x : AOp), xs[i]? = some x → w.cell? ⟨lb, lo + i * 5, none⟩ = some (.int .i64 x.k) ∧ w.cell? ⟨lb, lo + i * 5 + 1, none⟩ = some (.int .i64 x.a) ∧ w.cell? ⟨lb, lo + i * 5 + 2, none⟩ = some (.int .i64 x.b) ∧ w.cell? ⟨lb, lo + i * 5 + 3, none⟩ = some (.int .i64 x.n) ∧ w.cell? ⟨lb, lo + i * 5 + 4, none⟩ = some (.int .u64 x.v)) (hn : zs.length ≤ 200) (hm : xs.length ≤ 60) (hpos : 0 < zs.length) (hR : playR zs xs = ⟨o1, g1, r1, c1, 0, 0⟩) (hP : plays zs [] 0 0 0 xs = ⟨o1, g1, r1, c1, 0, 0⟩) (hg1 : g1 = []) : Calls Try.prog 4 #[.slice (some ⟨zb, off, none⟩) zs.length cap, .slice (some ⟨lb, lo, none⟩) xs.length lc] w (Ret (.bool true) w) := by
  have HV := Lib.hid hv
  have HX := Lib.hid hx
  have HR := Lib.hid hR
  have HP := Lib.hid hP
  have HE : Hid ((plays zs [] 0 0 0 xs).e = 0) := by show _ = _; rw [hP]
  have HLN : Hid (o1.length = zs.length) := by have := plays_length xs zs [] 0 0 0 (by rw [hP]); rw [hP] at this; exact this
  have HO : Hid (seqS zs xs xs.length = o1) := by show (plays zs [] 0 0 0 (List.take _ _)).out = o1; rw [List.take_of_length_le (Nat.le_refl _), hP]
  have HGG : Hid (seqG zs xs xs.length = g1) := by show (plays zs [] 0 0 0 (List.take _ _)).got = g1; rw [List.take_of_length_le (Nat.le_refl _), hP]
  have t1 : ¬ 200 < zs.length := by omega
  have t2 : ¬ 60 < xs.length := by omega
  have BEF : Hid (∀ (W : World) (n a0 : Nat), Below w.heap.size w W → n ≤ xs.length → a0 < zs.length → Calls Try.prog 14 #[.slice (some ⟨zb, off, none⟩) zs.length cap, .slice (some ⟨lb, lo, none⟩) xs.length lc, .int .i64 n, .int .i64 a0] W (Ret (.int .u64 ((seqS zs xs n).getD a0 0)) W)) := fun W n a0 hb h1 h2 => before_some zs xs n a0 zb off cap lb lo lc W HE.out h1 (by omega) h2 (by omega) (Nat.lt_of_lt_of_le hz hb.size) (fun i hi => (hb.cell (p := ⟨zb, off + i, none⟩) hz).trans (hzc i hi)) (Nat.lt_of_lt_of_le hlb hb.size) (fun i x hi => by
    obtain ⟨d0, d1, d2, d3, d4⟩ := hxx i x hi
    exact ⟨(hb.cell (p := ⟨lb, lo + i * 5, none⟩) hlb).trans d0, (hb.cell (p := ⟨lb, lo + i * 5 + 1, none⟩) hlb).trans d1, (hb.cell (p := ⟨lb, lo + i * 5 + 2, none⟩) hlb).trans d2, (hb.cell (p := ⟨lb, lo + i * 5 + 3, none⟩) hlb).trans d3, (hb.cell (p := ⟨lb, lo + i * 5 + 4, none⟩) hlb).trans d4⟩)
  have HXX := Lib.hid hxx
  clear hxx
  clear hv hx hR hP hzc
  go_enter Try.func4, Try.ntmps4
  go_wp2_with fail
  refine (play_val _ HV.out HX.out HR.out).mono ?_
  rintro e q1 ⟨vv1, vg1, rfl, ov, og, hb⟩
  have hnn := new_below q1 (.cells #[.int .i64 r1, .int .i64 c1] 26)
  have BB1 : Hid (Below w.heap.size w (q1.alloc (.cells #[.int .i64 r1, .int .i64 c1] 26))) := below_new hb (Nat.le_refl _) _
  rcases own_slice (own_below hnn ov) with ⟨_, h9⟩ | ⟨vg, vcp, rfl, vz, VC⟩
  · exfalso
    have h8 : o1.length = 0 := by have := congrArg List.length h9; simpa using this
    have := HLN.out
    omega
  have HVC := Lib.hid VC
  subst hg1
  rcases own_slice (own_below hnn og) with ⟨rfl, h9⟩ | ⟨gg, gcp, rfl, gz, GC⟩
  all_goals
    simp only
    rw [HLN.out]
    clear VC ov og hb hnn
    go_wp2_with fail
    generalize q1.heap.size = cb at *
    generalize q1.alloc (.cells #[.int .i64 r1, .int .i64 c1] 26) = w1 at *
    go_loopw [10] (fun i wr => ∃ k : Nat, k ≤ zs.length ∧ i = .int .i64 k ∧ Below w1.heap.size w1 wr) (fun i _ => zs.length - (intOf i).toNat)
    case atStart => exact ⟨0, Nat.zero_le _, rfl, Below.refl _ _⟩
    case round =>
      obtain ⟨k, hk, rfl, hb⟩ := hrel
      by_cases hkl : k < zs.length
      · have HVK : Hid (o1.getD k 0 = o1.getD k 0) := rfl
        have g1' := (hb.cell (p := ⟨vg, k, none⟩) vz).trans (HVC.out k (by show k < o1.length; rw [HLN.out]; exact hkl))
        have HBK : Hid ((seqS zs xs xs.length).getD k 0 = o1.getD k 0) := by show _ = _; rw [HO.out]
        have i1 : (0 : Int) ≤ (k : Int) := by omega
        have i2 : (k : Int) < (zs.length : Int) := by omega
        have hS : wr.cell? ⟨vg, k, none⟩ = some (.int .u64 (o1.getD k 0)) ∧ vg < wr.heap.size ∧ Below w1.heap.size w1 wr := ⟨g1', Nat.lt_of_lt_of_le vz hb.size, hb⟩
        generalize o1.getD k 0 = y at *
        clear g1'
        have BC5 : Hid (∀ W : World, (W.cell? ⟨vg, k, none⟩ = some (.int .u64 y) ∧ vg < W.heap.size ∧ Below w1.heap.size w1 W) → Calls Try.prog 14 #[.slice (some ⟨zb, off, none⟩) zs.length cap, .slice (some ⟨lb, lo, none⟩) xs.length lc, .int .i64 xs.length, .int .i64 k] W (Ret (.int .u64 ((seqS zs xs xs.length).getD k 0)) W)) := fun W hW => BEF.out W xs.length k (below_call hW.2.2 BB1.out (Nat.le_refl _)) (Nat.le_refl _) hkl
        go_wp2_with fail
        go_region_held3 (fun w' => w'.cell? ⟨vg, k, none⟩ = some (.int .u64 y) ∧ vg < w'.heap.size ∧ Below w1.heap.size w1 w') (first | exact sv_drew hS | exact sv_call (by with_reducible assumption) (by with_reducible assumption))
          (first | (go_at_call 14; refine (BC5.out _ (by with_reducible assumption)).mono ?_; rw [HBK.out]; rintro e w5 ⟨rfl, hb5⟩))
        have R5 : w5.cell? ⟨vg, k, none⟩ = some (.int .u64 y) ∧ vg < w5.heap.size ∧ Below w1.heap.size w1 w5 := by with_reducible assumption
        go_wp2
        exact ⟨⟨k + 1, by omega, by go_num, R5.2.2⟩, by simp [intOf]; omega⟩
      · have BBR := Lib.hid (below_call hb BB1.out (Nat.le_refl _))
        go_wp2_with fail
        go_loopw [11, 12] (fun nv i wr2 => ∃ m : Nat, m ≤ xs.length ∧ i = .int .i64 m ∧ nv = .int .i64 ((seqG zs xs m).length : Int) ∧ Below w1.heap.size w1 wr2) (fun _ i _ => xs.length - (intOf i).toNat)
        case atStart => exact ⟨0, Nat.zero_le _, rfl, by rw [(seq_zero zs xs).2]; rfl, hb⟩
        case round =>
          clear hb BBR hk hkl
          obtain ⟨m, hm', rfl, rfl, hb2⟩ := hrel
          by_cases hml : m < xs.length
          · obtain ⟨x, hxk⟩ : ∃ x, xs[m]? = some x := ⟨xs[m], by simp [hml]⟩
            obtain ⟨d0, d1, _, _, _⟩ := HXX.out m x hxk
            obtain ⟨q1, _, q3, q4⟩ := seq_step HE.out hxk
            have hbw := below_call hb2 BB1.out (Nat.le_refl _)
            have y0 := (hbw.cell (p := ⟨lb, lo + m * 5, none⟩) hlb).trans d0
            have y1 := (hbw.cell (p := ⟨lb, lo + m * 5 + 1, none⟩) hlb).trans d1
            have lbz := Nat.lt_of_lt_of_le hlb hbw.size
            clear d0 d1 hxk
            obtain ⟨xk, xa, xb, xn, xv⟩ := x
            simp only at y0 y1
            by_cases k1 : xk = 1
            · subst k1
              exfalso
              obtain ⟨G', hG⟩ := seq_got HE.out (m + 1)
              rw [HP.out, q3] at hG
              have := congrArg List.length hG
              simp [opGot] at this
            · have b1 : (xk != 1) = true := by simpa using k1
              have N0 : Hid ((seqG zs xs (m + 1)).length = (seqG zs xs m).length) := by show _ = _; rw [q3]; simp [opGot, k1]
              have j4 : (0 : Int) ≤ (m : Int) := by omega
              have j5 : (m : Int) < (xs.length : Int) := by omega
              clear q1 q3 q4 k1
              go_wp2
              exact ⟨⟨m + 1, by omega, by go_num, by rw [N0.out], hb2⟩, by simp [intOf]; omega⟩
          · have tn : (((seqG zs xs m).length : Int) == (0 : Int)) = true := by have := HGG.out; rw [show m = xs.length by omega, this]; simp
            go_wp2_with fail
            refine (awake_any _).mono ?_
            rintro e wz ⟨rfl, hbz⟩
            have BZ := Lib.hid (below_call hbz (below_call hb2 BB1.out (Nat.le_refl _)) (Nat.le_refl _))
            clear hbz
            go_wp2
            go_ret
            exact ⟨rfl, BZ.out⟩

set_option maxRecDepth 100000 in
set_option maxHeartbeats 8000000 in
theorem last_nn (zs : List Int) (xs : List AOp) (zb off cap lc : Nat) (la : Option Addr) (o1 g1 : List Int) (r1 c1 : Int) (w : World) (hv : Words w (.slice (some ⟨zb, off, none⟩) zs.length cap) zs) (hz : zb < w.heap.size) (hzc : ∀ i : Nat, i < zs.length → w.cell? ⟨zb, off + i, none⟩ = some (.int .u64 (zs.getD i 0))) (hx : OpsAt w (.slice la 0 lc) xs) (hxs : xs = []) (hn : zs.length ≤ 200) (hm : xs.length ≤ 60) (hpos : 0 < zs.length) (hR : playR zs xs = ⟨o1, g1, r1, c1, 0, 0⟩) (hP : plays zs [] 0 0 0 xs = ⟨o1, g1, r1, c1, 0, 0⟩) (hg1 : g1 = []) : Calls Try.prog 4 #[.slice (some ⟨zb, off, none⟩) zs.length cap, .slice la 0 lc] w (Ret (.bool true) w) := by
  subst hxs
  have HV := Lib.hid hv
  have HX := Lib.hid hx
  have HR := Lib.hid hR
  have HP := Lib.hid hP
  have HE : Hid ((plays zs [] 0 0 0 ([] : List AOp)).e = 0) := by show _ = _; rw [hP]
  have HLN : Hid (o1.length = zs.length) := by have := plays_length ([] : List AOp) zs [] 0 0 0 (by rw [hP]); rw [hP] at this; exact this
  have HO : Hid (seqS zs ([] : List AOp) ([] : List AOp).length = o1) := by show (plays zs [] 0 0 0 (List.take _ _)).out = o1; rw [List.take_of_length_le (Nat.le_refl _), hP]
  have HGG : Hid (seqG zs ([] : List AOp) ([] : List AOp).length = g1) := by show (plays zs [] 0 0 0 (List.take _ _)).got = g1; rw [List.take_of_length_le (Nat.le_refl _), hP]
  have t1 : ¬ 200 < zs.length := by omega
  have BEF : Hid (∀ (W : World) (a0 : Nat), Below w.heap.size w W → a0 < zs.length → Calls Try.prog 14 #[.slice (some ⟨zb, off, none⟩) zs.length cap, .slice la 0 lc, .int .i64 0, .int .i64 a0] W (Ret (.int .u64 (zs.getD a0 0)) W)) := fun W a0 hb h2 => before_none zs a0 zb off cap lc la W h2 (fun i hi => (hb.cell (p := ⟨zb, off + i, none⟩) hz).trans (hzc i hi))
  clear hv hx hR hP hzc
  go_enter Try.func4, Try.ntmps4
  go_wp2_with fail
  refine (play_val _ HV.out HX.out HR.out).mono ?_
  rintro e q1 ⟨vv1, vg1, rfl, ov, og, hb⟩
  have hnn := new_below q1 (.cells #[.int .i64 r1, .int .i64 c1] 26)
  have BB1 : Hid (Below w.heap.size w (q1.alloc (.cells #[.int .i64 r1, .int .i64 c1] 26))) := below_new hb (Nat.le_refl _) _
  rcases own_slice (own_below hnn ov) with ⟨_, h9⟩ | ⟨vg, vcp, rfl, vz, VC⟩
  · exfalso
    have h8 : o1.length = 0 := by have := congrArg List.length h9; simpa using this
    have := HLN.out
    omega
  have HVC := Lib.hid VC
  subst hg1
  rcases own_slice (own_below hnn og) with ⟨rfl, h9⟩ | ⟨gg, gcp, rfl, gz, GC⟩
  all_goals
    simp only
    rw [HLN.out]
    clear VC ov og hb hnn
    go_wp2_with fail
    generalize q1.heap.size = cb at *
    generalize q1.alloc (.cells #[.int .i64 r1, .int .i64 c1] 26) = w1 at *
    go_loopw [10] (fun i wr => ∃ k : Nat, k ≤ zs.length ∧ i = .int .i64 k ∧ Below w1.heap.size w1 wr) (fun i _ => zs.length - (intOf i).toNat)
    case atStart => exact ⟨0, Nat.zero_le _, rfl, Below.refl _ _⟩
    case round =>
      obtain ⟨k, hk, rfl, hb⟩ := hrel
      by_cases hkl : k < zs.length
      · have HVK : Hid (o1.getD k 0 = o1.getD k 0) := rfl
        have g1' := (hb.cell (p := ⟨vg, k, none⟩) vz).trans (HVC.out k (by show k < o1.length; rw [HLN.out]; exact hkl))
        have HBK : Hid (zs.getD k 0 = o1.getD k 0) := by show _ = _; rw [← HO.out]; rfl
        have i1 : (0 : Int) ≤ (k : Int) := by omega
        have i2 : (k : Int) < (zs.length : Int) := by omega
        have hS : wr.cell? ⟨vg, k, none⟩ = some (.int .u64 (o1.getD k 0)) ∧ vg < wr.heap.size ∧ Below w1.heap.size w1 wr := ⟨g1', Nat.lt_of_lt_of_le vz hb.size, hb⟩
        generalize o1.getD k 0 = y at *
        clear g1'
        have BC5 : Hid (∀ W : World, (W.cell? ⟨vg, k, none⟩ = some (.int .u64 y) ∧ vg < W.heap.size ∧ Below w1.heap.size w1 W) → Calls Try.prog 14 #[.slice (some ⟨zb, off, none⟩) zs.length cap, .slice la 0 lc, .int .i64 0, .int .i64 k] W (Ret (.int .u64 (zs.getD k 0)) W)) := fun W hW => BEF.out W  k (below_call hW.2.2 BB1.out (Nat.le_refl _))  hkl
        go_wp2_with fail
        go_region_held3 (fun w' => w'.cell? ⟨vg, k, none⟩ = some (.int .u64 y) ∧ vg < w'.heap.size ∧ Below w1.heap.size w1 w') (first | exact sv_drew hS | exact sv_call (by with_reducible assumption) (by with_reducible assumption))
          (first | (go_at_call 14; refine (BC5.out _ (by with_reducible assumption)).mono ?_; rw [HBK.out]; rintro e w5 ⟨rfl, hb5⟩))
        have R5 : w5.cell? ⟨vg, k, none⟩ = some (.int .u64 y) ∧ vg < w5.heap.size ∧ Below w1.heap.size w1 w5 := by with_reducible assumption
        go_wp2
        exact ⟨⟨k + 1, by omega, by go_num, R5.2.2⟩, by simp [intOf]; omega⟩
      · have BBR := Lib.hid (below_call hb BB1.out (Nat.le_refl _))
        go_wp2_with fail
        refine wp_loop_rounds 1 ?_
        rw [rounds_succ]
        go_wp2_with fail
        refine (awake_any _).mono ?_
        rintro e wz ⟨rfl, hbz⟩
        have BZ := Lib.hid (below_call hbz (below_call hb BB1.out (Nat.le_refl _)) (Nat.le_refl _))
        clear hbz
        go_wp2
        go_ret
        exact ⟨rfl, BZ.out⟩

theorem playR_err {zs : List Int} {xs : List AOp} (hm : xs.length ≤ 500) (he : (playR zs xs).e ≠ 0) : (playR zs xs).out = [] ∧ (playR zs xs).got = [] := by
  by_cases hc : chkA zs = 0
  · rw [playR_ok hc hm] at he ⊢
    obtain ⟨h1, h2, _⟩ := (plays_facts xs zs [] 0 0 0).2 he
    exact ⟨h1, h2⟩
  · rw [playR_no xs hc]; exact ⟨rfl, rfl⟩
theorem last_walk (zs : List Int) (xs : List AOp) (v l : Value) (w : World) (hv : Words w v zs) (hx : OpsAt w l xs) : Calls Try.prog 4 #[v, l] w (Ret (.bool true) w) := by
  obtain ⟨a, c, rfl⟩ := words_slice hv
  have hla : ∃ (b : Option Addr) (d : Nat), l = .slice b xs.length d := by
    obtain ⟨_, ⟨rfl, b, d, rfl⟩ | ⟨_, lb, lo, d, rfl, _⟩⟩ := hx
    · exact ⟨b, d, rfl⟩
    · exact ⟨_, d, rfl⟩
  by_cases h : 200 < zs.length ∨ 60 < xs.length
  · obtain ⟨b, d, rfl⟩ := hla
    exact last_far _ _ _ _ _ _ w h
  · by_cases he : (playR zs xs).e = 0
    · obtain ⟨_, _, _, _, hc, _⟩ := playR_bounds zs xs (by omega) he
      obtain ⟨l1, l2, _⟩ := chk_ok hc
      obtain ⟨zb, off, cap', e, h1, h2, h3⟩ := words_some hv l1
      simp at e
      obtain ⟨rfl, rfl⟩ := e
      have hok := playR_ok hc (show xs.length ≤ 500 by omega)
      have hi := (plays_facts xs zs [] 0 0 0).1 (by rw [← hok]; exact he)
      have hP : plays zs [] 0 0 0 xs = ⟨(plays zs [] 0 0 0 xs).out, (plays zs [] 0 0 0 xs).got, (plays zs [] 0 0 0 xs).r, (plays zs [] 0 0 0 xs).c, 0, 0⟩ := by
        have he' : (plays zs [] 0 0 0 xs).e = 0 := by rw [← hok]; exact he
        generalize plays zs [] 0 0 0 xs = R at *
        obtain ⟨o, g, r, c, i, e⟩ := R
        simp only at hi he'
        rw [hi, he']
      have hR := hok.trans hP
      have hx' := hx
      obtain ⟨_, ⟨hxs, b, d, rfl⟩ | ⟨_, lb, lo, d, rfl, _, hlb, hxx⟩⟩ := hx
      · have hx2 : OpsAt w (.slice b 0 d) xs := hx'
        exact last_nn zs xs zb off c d b _ _ _ _ w hv h2 h3 hx2 hxs (by omega) (by omega) (by omega) hR hP (by rw [hxs]; rfl)
      · by_cases hg : (plays zs [] 0 0 0 xs).got = []
        · exact last_nm zs xs zb off c d lb lo _ _ _ _ w hv h2 h3 hx' hlb hxx (by omega) (by omega) (by omega) hR hP hg
        · exact last_mm zs xs zb off c d lb lo _ _ _ _ w hv h2 h3 hx' hlb hxx (by omega) (by omega) (by omega) hR hP (List.length_pos_iff.2 hg)
    · obtain ⟨b, d, rfl⟩ := hla
      obtain ⟨e1, e2⟩ := playR_err (show xs.length ≤ 500 by omega) he
      exact last_err zs xs a b c d _ w hv hx (by omega) (by omega) rfl he e1 e2

set_option maxRecDepth 100000 in
theorem arenaLast_lifted (os : Os) (started : os.Started) (H : Type) (enc : TypeId × Value → H) :
    ReturnsInHanded {} Try.checked os 4 .any (Rows.arenaLastSpec.pre6 enc Try.prog Try.f4 Rows.arenaLastRow.domain false) (Rows.arenaLastSpec.post enc Try.prog Try.f4 false true false false) := by
  refine returnsInHanded_of_change (C := Try.checked) own started (by kernel_rfl) Try.func4
    (ChangeSpec.witness6 (enc := enc) (C := Try.checked) false ⟨#[], #[.slice none 0 0, .slice none 0 0], []⟩ 8 (by kernel_rfl) (by kernel_rfl) (by kernel_rfl) (by kernel_rfl)) ?_
  intro W base args ds gs before hval0 hW hcnd _
  have hval : ∀ (j : Nat) t v, Try.f4.params[j]? = some t → args[j]? = some v → Value.okWide Try.prog W .any base t v := hval0
  have hW' := hW
  obtain ⟨p, q, hA0, hV, rfl, hfz, hnd⟩ := hW
  have hA : DataW.TrodAll enc Try.prog W 0 (fun _ => true) true Try.f4.params.toList args.toList ds p := hA0
  obtain ⟨rfl, rfl⟩ := trodVars_none hV
  obtain ⟨v0, v1, d0, d1, p0, p1, rfl, rfl, t0, t1, k0, k1⟩ := law2 Try.params4 hA hval
  obtain ⟨zs, hz⟩ := open_words k0 t0
  obtain ⟨xs, hx⟩ := open_ops k1 t1
  refine (last_walk zs xs _ _ W hz hx).mono fun e W' ⟨he, hb⟩ => ?_
  subst he
  exact ⟨_, rfl, law_post laidOut (by kernel_rfl) rfl (by kernel_rfl) Try.underlying4 hW' rfl rfl rfl hb⟩

theorem arenaLast_over : Rows.arenaLastRow.holds Try.pinned (OpenSpec.ofChange Rows.arenaLastSpec) :=
  OpenClaim.holds_of_wide 4 Try.f4 rfl rfl rfl rfl rfl rfl rfl ⟨rfl, rfl, rfl, rfl, rfl⟩ rfl rfl rfl rfl rfl (by kernel_rfl) Try.func4 (by kernel_rfl)
    (of_decide_eq_true (by kernel_rfl)) (by unfold Func.isWrapper; first | (rw [if_pos (by decide +kernel)]; kernel_rfl) | (rw [if_neg (by decide +kernel)]; exact ⟨rfl, rfl⟩))
    (fun os started H enc _ => arenaLast_lifted os started H enc)

theorem arenaLast_holds : Rows.ArenaLastSaid := arenaLast_over
#print axioms arenaLast_holds
end Go.Proofs.Ytmjjbnjedafdaaa
