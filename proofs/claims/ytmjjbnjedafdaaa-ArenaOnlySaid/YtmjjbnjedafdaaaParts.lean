/-
  Every run of ArenaParts answers true, whatever it is called with, and leaves what was there as it was: its walk, out of the contracts of the program.
-/
import Derived.Test.YtmjjbnjedafdaaaPlain
import Derived.Laws.AppendOwnNone
import Derived.Outline
namespace Go.Proofs.Ytmjjbnjedafdaaa
open Go.ChangeShapes Go.WideShapes Go.ChangeAt Go.RowKit Go.Joins Go.Deep

theorem play_val {zs : List Int} {xs : List AOp} {R : PR} {v l : Value} (w : World) (hv : Words w v zs) (hx : OpsAt w l xs) (h : playR zs xs = R) : Calls Try.prog 11 #[v, l] w (PlayPost R w) := by
  rw [← h]; exact play_pub zs xs v l w hv hx

/-- append of a slice of words, nil or not. -/
theorem app_run {w W : World} {base : Nat} {v x : Value} {a b : List Int} (hv : W.ownsRow base 32 1 v a.length (us a)) (hx : Own w x b W) (hl : a.length + b.length ≤ 100000) (hb : base ≤ W.heap.size) :
    ∃ v' W', (Builtin.append_ #[22, 22] 22 #[v, x]).run Try.prog W = .ok v' W' ∧ W'.ownsRow base 32 1 v' (a ++ b).length (us (a ++ b)) ∧ W.grownBy W' v.ownBlock := by
  obtain ⟨i0, hi0, hz0, hz1, hz2⟩ := info_parts info32
  obtain ⟨h1, ⟨rfl, h2⟩ | ⟨g, cap, cur, rfl, e2, e3, e4, e5, e6, e7⟩⟩ := hx
  · have : b = [] := List.eq_nil_of_length_eq_zero h2
    subst this
    refine ⟨v, W, run_append_owned_none (P := Try.prog) (w := W) base 22 22 32 i0 1 Try.underlying22 hi0 v _ _ hv, by rw [List.append_nil]; exact hv, ⟨rfl, rfl, rfl, Nat.le_refl _, fun _ _ _ => rfl⟩⟩
  · obtain ⟨v', W', r1, r2, r3, _⟩ := run_append_own (P := Try.prog) W base 22 22 32 i0 (.int .u64 0) 1 8 Try.underlying22 hi0 hz0 hz1 hz2 rfl (by decide) v a.length (us a) hv ⟨g, 0, none⟩ b.length cap (us b) (by rw [us_length, Nat.mul_one]) (fun j u hj => by
      have hj' : j < b.length := by have := (List.getElem?_eq_some_iff.1 hj).1; rw [us_length] at this; exact this
      rw [Go.WideShapes.add_plain, Nat.zero_add]
      have hc : W.cell? ⟨g, j, none⟩ = cur.toList[j]? := by simp [World.cell?, e3]
      rw [hc, ← List.getElem?_take_of_lt (j := b.length) hj', ← Nat.mul_one b.length, e7]; exact hj) (fun u hu => by obtain ⟨y, _, rfl⟩ := List.mem_map.1 hu; rfl) (by unfold maxLen; omega) (by omega) hb
    exact ⟨v', W', r1, by rw [List.length_append, us_append]; exact r2, r3⟩

theorem wpList_app {W W' : World} {ops : Array Oper} {rest : List Oper} {o : Oper} {a : Act} {Q : Exit → Act → World → Prop} (hgd : o.guard = none) (s x : Operand) (ho : o.op = .call { callee := .builtin .append, args := #[s, x], argTypes := #[22, 22] }) (hty : o.type = 22) {v xv v' : Value} (hs : a.eval s = v) (hx : a.eval x = xv)
    (hrun : (Builtin.append_ #[22, 22] 22 #[v, xv]).run Try.prog W = .ok v' W') (h : wpList Try.prog ops Q rest (a.put o.dst v') W') : wpList Try.prog ops Q (o :: rest) a W := by
  refine wpList_plain hgd fun K hK => ?_
  unfold Oper.wp execOp
  simp only [ho, hty, resolve, invoke, builtin, Sem.run_bind, Sem.run_pure, Result.andThen_ok, List.map_toArray, List.map_cons, List.map_nil, hs, hx, hrun]
  exact hK _ _ h

/-- The law's world behind a Play: two words of counts in a block of its own. -/
def Cnt (b : Nat) (r c : Int) (w : World) : Prop := w.cell? ⟨b, 0, none⟩ = some (.int .i64 r) ∧ w.cell? ⟨b, 1, none⟩ = some (.int .i64 c) ∧ b < w.heap.size
theorem cnt_new (w : World) (r c : Int) : Cnt w.heap.size r c (w.alloc (.cells #[.int .i64 r, .int .i64 c] 26)) := ⟨by simp, by simp, by simp⟩
theorem cnt_below {b : Nat} {r c : Int} {w w1 : World} (hb : Below w.heap.size w w1) (h : Cnt b r c w) : Cnt b r c w1 :=
  ⟨(hb.cell (p := ⟨b, 0, none⟩) h.2.2).trans h.1, (hb.cell (p := ⟨b, 1, none⟩) h.2.2).trans h.2.1, Nat.lt_of_lt_of_le h.2.2 hb.size⟩

set_option maxHeartbeats 1000000 in
theorem parts_far (a b : Option Addr) (n c m d : Nat) (t : Int) (w : World) (h : 200 < n ∨ 60 < m) : Calls Try.prog 5 #[.slice a n c, .slice b m d, .int .u8 t] w (Ret (.bool true) w) := by
  have h' : 200 < n ∨ (¬ 200 < n ∧ 60 < m) := by omega
  clear h
  rcases h' with h1 | ⟨h1, h2⟩
  all_goals
    go_enter Try.func5, Try.ntmps5
    go_wp2_with (first | (go_at_call 10; refine (awake_any _).mono ?_; rintro e w1 ⟨rfl, hb1⟩))
    go_ret
    exact ⟨rfl, hb1⟩

theorem eq_cnt (r c : Int) (w : World) : (binOp .eql 26 (.agg #[.int .i64 r, .int .i64 c]) (.agg #[.int .i64 r, .int .i64 c])).run Try.prog w = .ok (.bool true) w := by
  go_simp

set_option maxRecDepth 100000 in
set_option maxHeartbeats 4000000 in
theorem parts_n1 (zs : List Int) (xs : List AOp) (va : Option Addr) (vc : Nat) (k : Nat) (t : Int) (R1 R2 : PR) (w : World) (hv : Words w (.slice va zs.length vc) zs) (hxs : xs = []) (hn : zs.length ≤ 200) (hm : xs.length ≤ 60) (t0 : 0 ≤ t) (t1 : t ≤ 255) (hk : k ≤ xs.length) (ht : t % ((xs.length : Int) + 1) = (k : Int)) (h1 : playR zs xs = R1) (h2 : playR zs (xs.take k) = R2) (he : R2.e ≠ 0) (g1 : R1.e = R2.e) (g2 : R1.i = R2.i) : Calls Try.prog 5 #[.slice va zs.length vc, .slice none 0 0, .int .u8 t] w (Ret (.bool true) w) := by
  subst hxs
  obtain rfl : k = 0 := by simpa using hk
  have HV := Lib.hid hv
  have H1 := Lib.hid h1
  have H2 := Lib.hid h2
  have hn' : ¬ 200 < zs.length := by omega
  have ht' : t % 1 = 0 := by omega
  clear ht
  have b1 : (R2.e != 0) = true := by simpa using he
  have G1 := Lib.hid g1
  have G2 := Lib.hid g2
  clear he g1 g2
  clear hv h1 h2
  go_enter Try.func5, Try.ntmps5
  go_wp2_with fail
  refine (play_val _ HV.out ⟨by simp, .inl ⟨rfl, _, _, rfl⟩⟩ H1.out).mono ?_
  rintro e q1 ⟨vv1, vg1, rfl, ov, og, hb⟩
  obtain ⟨o1, g1, r1, c1, i1, e1⟩ := R1
  simp only at *
  have hy : Below w.heap.size w (q1.alloc (.cells #[.int .i64 r1, .int .i64 c1] 26)) := below_new hb (Nat.le_refl _) _
  have VV1 := Lib.hid (words_below (new_below q1 (.cells #[.int .i64 r1, .int .i64 c1] 26)) (own_words ov))
  have VG1 := Lib.hid (words_below (new_below q1 (.cells #[.int .i64 r1, .int .i64 c1] 26)) (own_words og))
  have C1 := Lib.hid (cnt_new q1 r1 c1)
  have BB1 := Lib.hid hy
  clear ov og hb hy
  go_wp2_with fail
  generalize q1.heap.size = b1' at *
  generalize q1.alloc (.cells #[.int .i64 r1, .int .i64 c1] 26) = w1 at *
  refine (play_val _ (words_below BB1.out HV.out) ⟨by simp, .inl ⟨rfl, _, _, rfl⟩⟩ H2.out).mono ?_
  rintro e q2 ⟨vv2, vg2, rfl, ov, og, hb⟩
  obtain ⟨o2, g2, r2, c2, i2, e2⟩ := R2
  simp only at *
  have hn2 := new_below q2 (.cells #[.int .i64 r2, .int .i64 c2] 26)
  have hb12 : Below w1.heap.size w1 (q2.alloc (.cells #[.int .i64 r2, .int .i64 c2] 26)) := below_new hb (Nat.le_refl _) _
  have VV2 := Lib.hid (words_below hn2 (own_words ov))
  have VG2 := Lib.hid (own_below hn2 og)
  have VV12 := Lib.hid (words_below hb12 VV1.out)
  have VG12 := Lib.hid (words_below hb12 VG1.out)
  have C2 := Lib.hid (cnt_new q2 r2 c2)
  have C12 := Lib.hid (cnt_below hb12 C1.out)
  have BB2 : Hid (Below w.heap.size w (q2.alloc (.cells #[.int .i64 r2, .int .i64 c2] 26))) := below_call hb12 BB1.out (Nat.le_refl _)
  clear ov og hb hn2 hb12 VV1 VG1 C1
  have E1 := G1.out
  have E2 := G2.out
  subst E1
  subst E2
  go_wp2_with fail
  refine (awake_any _).mono ?_
  rintro e wz ⟨rfl, hb⟩
  have BZ := Lib.hid (below_call hb BB2.out (Nat.le_refl _))
  clear hb
  go_wp2
  go_ret
  exact ⟨rfl, BZ.out⟩

set_option maxRecDepth 100000 in
set_option maxHeartbeats 4000000 in
theorem parts_n2 (zs : List Int) (xs : List AOp) (va : Option Addr) (vc : Nat) (k : Nat) (t : Int) (R1 R2 R3 : PR) (w : World) (hv : Words w (.slice va zs.length vc) zs) (hxs : xs = []) (hn : zs.length ≤ 200) (hm : xs.length ≤ 60) (t0 : 0 ≤ t) (t1 : t ≤ 255) (hk : k ≤ xs.length) (ht : t % ((xs.length : Int) + 1) = (k : Int)) (h1 : playR zs xs = R1) (h2 : playR zs (xs.take k) = R2) (h3 : playR R2.out (xs.drop k) = R3) (he2 : R2.e = 0) (he : R3.e ≠ 0) (g1 : R1.e = R3.e) (g2 : R1.i = k + R3.i) (g3 : 0 ≤ R3.i ∧ R3.i ≤ 60) : Calls Try.prog 5 #[.slice va zs.length vc, .slice none 0 0, .int .u8 t] w (Ret (.bool true) w) := by
  subst hxs
  obtain rfl : k = 0 := by simpa using hk
  have HV := Lib.hid hv
  have H1 := Lib.hid h1
  have H2 := Lib.hid h2
  have H3 := Lib.hid h3
  have hn' : ¬ 200 < zs.length := by omega
  have ht' : t % 1 = 0 := by omega
  clear ht
  have b1 : (R3.e != 0) = true := by simpa using he
  have G0 := Lib.hid he2
  have G1 := Lib.hid g1
  have G2 := Lib.hid g2
  obtain ⟨g3, g4⟩ := g3
  clear he he2 g1 g2
  clear hv h1 h2 h3
  go_enter Try.func5, Try.ntmps5
  go_wp2_with fail
  refine (play_val _ HV.out ⟨by simp, .inl ⟨rfl, _, _, rfl⟩⟩ H1.out).mono ?_
  rintro e q1 ⟨vv1, vg1, rfl, ov, og, hb⟩
  obtain ⟨o1, g1, r1, c1, i1, e1⟩ := R1
  simp only at *
  have hy : Below w.heap.size w (q1.alloc (.cells #[.int .i64 r1, .int .i64 c1] 26)) := below_new hb (Nat.le_refl _) _
  have VV1 := Lib.hid (words_below (new_below q1 (.cells #[.int .i64 r1, .int .i64 c1] 26)) (own_words ov))
  have VG1 := Lib.hid (words_below (new_below q1 (.cells #[.int .i64 r1, .int .i64 c1] 26)) (own_words og))
  have C1 := Lib.hid (cnt_new q1 r1 c1)
  have BB1 := Lib.hid hy
  clear ov og hb hy
  go_wp2_with fail
  generalize q1.heap.size = b1' at *
  generalize q1.alloc (.cells #[.int .i64 r1, .int .i64 c1] 26) = w1 at *
  refine (play_val _ (words_below BB1.out HV.out) ⟨by simp, .inl ⟨rfl, _, _, rfl⟩⟩ H2.out).mono ?_
  rintro e q2 ⟨vv2, vg2, rfl, ov, og, hb⟩
  obtain ⟨o2, g2, r2, c2, i2, e2⟩ := R2
  simp only at *
  have hn2 := new_below q2 (.cells #[.int .i64 r2, .int .i64 c2] 26)
  have hb12 : Below w1.heap.size w1 (q2.alloc (.cells #[.int .i64 r2, .int .i64 c2] 26)) := below_new hb (Nat.le_refl _) _
  have VV2 := Lib.hid (words_below hn2 (own_words ov))
  have VG2 := Lib.hid (own_below hn2 og)
  have VV12 := Lib.hid (words_below hb12 VV1.out)
  have VG12 := Lib.hid (words_below hb12 VG1.out)
  have C2 := Lib.hid (cnt_new q2 r2 c2)
  have C12 := Lib.hid (cnt_below hb12 C1.out)
  have BB2 : Hid (Below w.heap.size w (q2.alloc (.cells #[.int .i64 r2, .int .i64 c2] 26))) := below_call hb12 BB1.out (Nat.le_refl _)
  clear ov og hb hn2 hb12 VV1 VG1 C1
  have E0 := G0.out
  subst E0
  go_wp2_with fail
  all_goals
    generalize q2.heap.size = b2' at *
    generalize q2.alloc (.cells #[.int .i64 r2, .int .i64 c2] 26) = w2 at *
    refine (play_val _ VV2.out ⟨by simp, .inl ⟨rfl, _, _, rfl⟩⟩ H3.out).mono ?_
    rintro e q3 ⟨vv3, vg3, rfl, ov, og, hb⟩
    obtain ⟨o3, g3, r3, c3, i3, e3⟩ := R3
    simp only at *
    have hn3 := new_below q3 (.cells #[.int .i64 r3, .int .i64 c3] 26)
    have hb23 : Below w2.heap.size w2 (q3.alloc (.cells #[.int .i64 r3, .int .i64 c3] 26)) := below_new hb (Nat.le_refl _) _
    have BB3 : Hid (Below w.heap.size w (q3.alloc (.cells #[.int .i64 r3, .int .i64 c3] 26))) := below_call hb23 BB2.out (Nat.le_refl _)
    clear ov og hb hn3 hb23
    have E1 := G1.out
    have E2 := G2.out
    subst E1
    subst E2
    go_wp2_with fail
    refine (awake_any _).mono ?_
    rintro e wz ⟨rfl, hb⟩
    have BZ := Lib.hid (below_call hb BB3.out (Nat.le_refl _))
    clear hb
    go_wp2
    go_ret
    exact ⟨rfl, BZ.out⟩

set_option maxRecDepth 100000 in
set_option maxHeartbeats 4000000 in
theorem parts_n3 (zs : List Int) (xs : List AOp) (va : Option Addr) (vc : Nat) (k : Nat) (t : Int) (R1 R2 R3 : PR) (w : World) (hv : Words w (.slice va zs.length vc) zs) (hxs : xs = []) (hn : zs.length ≤ 200) (hm : xs.length ≤ 60) (t0 : 0 ≤ t) (t1 : t ≤ 255) (hk : k ≤ xs.length) (ht : t % ((xs.length : Int) + 1) = (k : Int)) (h1 : playR zs xs = R1) (h2 : playR zs (xs.take k) = R2) (h3 : playR R2.out (xs.drop k) = R3) (he2 : R2.e = 0) (he3 : R3.e = 0) (g1 : R1.e = 0) (g2 : R1.out = R3.out) (g3 : R1.got = R2.got ++ R3.got) (g4 : R1.r = R2.r + R3.r) (g5 : R1.c = R2.c + R3.c) (g6 : 0 ≤ R2.r ∧ R2.r ≤ 100000 ∧ 0 ≤ R3.r ∧ R3.r ≤ 100000 ∧ 0 ≤ R2.c ∧ R2.c ≤ 100000 ∧ 0 ≤ R3.c ∧ R3.c ≤ 100000) (g7 : R2.got.length + R3.got.length ≤ 1000) (g8 : R3.out.length ≤ 1601) : Calls Try.prog 5 #[.slice va zs.length vc, .slice none 0 0, .int .u8 t] w (Ret (.bool true) w) := by
  subst hxs
  obtain rfl : k = 0 := by simpa using hk
  have HV := Lib.hid hv
  have H1 := Lib.hid h1
  have H2 := Lib.hid h2
  have H3 := Lib.hid h3
  have hn' : ¬ 200 < zs.length := by omega
  have ht' : t % 1 = 0 := by omega
  clear ht
  have G0 := Lib.hid he2
  have G00 := Lib.hid he3
  have G1 := Lib.hid g1
  have G2 := Lib.hid g2
  have G3 := Lib.hid g3
  have G4 := Lib.hid g4
  have G5 := Lib.hid g5
  obtain ⟨s1, s2, s3, s4, s5, s6, s7, s8⟩ := g6
  clear he2 he3 g1 g2 g3 g4 g5
  clear hv h1 h2 h3
  go_enter Try.func5, Try.ntmps5
  go_wp2_with fail
  refine (play_val _ HV.out ⟨by simp, .inl ⟨rfl, _, _, rfl⟩⟩ H1.out).mono ?_
  rintro e q1 ⟨vv1, vg1, rfl, ov, og, hb⟩
  obtain ⟨o1, g1, r1, c1, i1, e1⟩ := R1
  simp only at *
  have hy : Below w.heap.size w (q1.alloc (.cells #[.int .i64 r1, .int .i64 c1] 26)) := below_new hb (Nat.le_refl _) _
  have VV1 := Lib.hid (words_below (new_below q1 (.cells #[.int .i64 r1, .int .i64 c1] 26)) (own_words ov))
  have VG1 := Lib.hid (words_below (new_below q1 (.cells #[.int .i64 r1, .int .i64 c1] 26)) (own_words og))
  have C1 := Lib.hid (cnt_new q1 r1 c1)
  have BB1 := Lib.hid hy
  clear ov og hb hy
  go_wp2_with fail
  generalize q1.heap.size = b1' at *
  generalize q1.alloc (.cells #[.int .i64 r1, .int .i64 c1] 26) = w1 at *
  refine (play_val _ (words_below BB1.out HV.out) ⟨by simp, .inl ⟨rfl, _, _, rfl⟩⟩ H2.out).mono ?_
  rintro e q2 ⟨vv2, vg2, rfl, ov, og, hb⟩
  obtain ⟨o2, g2, r2, c2, i2, e2⟩ := R2
  simp only at *
  have hn2 := new_below q2 (.cells #[.int .i64 r2, .int .i64 c2] 26)
  have hb12 : Below w1.heap.size w1 (q2.alloc (.cells #[.int .i64 r2, .int .i64 c2] 26)) := below_new hb (Nat.le_refl _) _
  have VV2 := Lib.hid (words_below hn2 (own_words ov))
  have VG2 := Lib.hid (own_below hn2 og)
  have VV12 := Lib.hid (words_below hb12 VV1.out)
  have VG12 := Lib.hid (words_below hb12 VG1.out)
  have C2 := Lib.hid (cnt_new q2 r2 c2)
  have C12 := Lib.hid (cnt_below hb12 C1.out)
  have BB2 : Hid (Below w.heap.size w (q2.alloc (.cells #[.int .i64 r2, .int .i64 c2] 26))) := below_call hb12 BB1.out (Nat.le_refl _)
  clear ov og hb hn2 hb12 VV1 VG1 C1
  have E0 := G0.out
  subst E0
  go_wp2_with fail
  all_goals
    generalize q2.heap.size = b2' at *
    generalize q2.alloc (.cells #[.int .i64 r2, .int .i64 c2] 26) = w2 at *
    refine (play_val _ VV2.out ⟨by simp, .inl ⟨rfl, _, _, rfl⟩⟩ H3.out).mono ?_
    rintro e q3 ⟨vv3, vg3, rfl, ov, og, hb⟩
    obtain ⟨o3, g3, r3, c3, i3, e3⟩ := R3
    simp only at *
    have hn3 := new_below q3 (.cells #[.int .i64 r3, .int .i64 c3] 26)
    have hb23 : Below w2.heap.size w2 (q3.alloc (.cells #[.int .i64 r3, .int .i64 c3] 26)) := below_new hb (Nat.le_refl _) _
    have BB3 : Hid (Below w.heap.size w (q3.alloc (.cells #[.int .i64 r3, .int .i64 c3] 26))) := below_call hb23 BB2.out (Nat.le_refl _)
    have VV3 := Lib.hid (words_below hn3 (own_words ov))
    have VG3 := Lib.hid (own_below hn3 og)
    have VG23 := Lib.hid (own_below hb23 VG2.out)
    have VV13 := Lib.hid (words_below hb23 VV12.out)
    have VG13 := Lib.hid (words_below hb23 VG12.out)
    have C3 := Lib.hid (cnt_new q3 r3 c3)
    have C23 := Lib.hid (cnt_below hb23 C2.out)
    have C13 := Lib.hid (cnt_below hb23 C12.out)
    clear ov og hb hn3 hb23 VV2 VG2 VV12 VG12 C2 C12 BB2 BB1
    have E0 := G00.out
    subst E0
    have E1 := G1.out
    subst E1
    have E4 := G4.out
    have E5 := G5.out
    subst E4
    subst E5
    have hne : q3.heap.size + 1 = (q3.alloc (.cells #[.int .i64 r3, .int .i64 c3] 26)).heap.size := by simp
    obtain ⟨f1, x1, hrun1, hown1, hgr1⟩ := app_run (base := q3.heap.size + 1) (W := (q3.alloc (.cells #[.int .i64 r3, .int .i64 c3] 26)).alloc (.cells #[] 32)) (v := .slice (some ⟨q3.heap.size + 1, 0, none⟩) 0 0) (a := []) ⟨rfl, .inr ⟨q3.heap.size + 1, 0, #[], rfl, Nat.le_refl _, by rw [hne]; exact (MapKept.heap_alloc _ _).1, Nat.le_refl _, Nat.zero_le _, rfl, rfl⟩⟩ (own_below (new_below _ _) VG23.out) (by simp only [List.length_nil] at *; omega) (by simp)
    have hbx1 : Below (q3.alloc (.cells #[.int .i64 r3, .int .i64 c3] 26)).heap.size (q3.alloc (.cells #[.int .i64 r3, .int .i64 c3] 26)) x1 := (new_below _ _).grown hgr1 (by simp) (by simp [Value.ownBlock])
    obtain ⟨f2, x2, hrun2, hown2, hgr2⟩ := app_run hown1 (own_below hbx1 VG3.out) (by simp only [List.nil_append] at *; omega) (by rw [hne]; exact hbx1.size)
    have hbx2 : Below (q3.alloc (.cells #[.int .i64 r3, .int .i64 c3] 26)).heap.size (q3.alloc (.cells #[.int .i64 r3, .int .i64 c3] 26)) x2 := hbx1.grown hgr2 hbx1.size (fun j hj => by rw [← hne]; exact (hown1.lt j hj).1)
    rw [List.nil_append] at hown2
    have FF : Hid (Words x2 f2 (g2 ++ g3)) := own_words (w := q3.alloc (.cells #[.int .i64 r3, .int .i64 c3] 26)) (by unfold Own; rw [← hne]; exact hown2)
    have VV3' := Lib.hid (words_below hbx2 VV3.out)
    have VV13' := Lib.hid (words_below hbx2 VV13.out)
    have VG13' := Lib.hid (words_below hbx2 VG13.out)
    have K3 := Lib.hid (cnt_below hbx2 C3.out)
    have K2 := Lib.hid (cnt_below hbx2 C23.out)
    have K1 := Lib.hid (cnt_below hbx2 C13.out)
    have BX := Lib.hid (below_call hbx2 BB3.out (Nat.le_refl _))
    have hq : ∀ (r c : Int) (w : World), (binOp .eql 26 (.agg #[.int .i64 r, .int .i64 c]) (.agg #[.int .i64 r, .int .i64 c])).run Try.prog w = .ok (.bool true) w := fun r c w => eq_cnt r c w
    clear hne
    clear hown1 hgr1 hbx1 hown2 hgr2 hbx2 VV3 VG3 VG23 VV13 VG13 C3 C23 C13 BB3
    have HR1 := Lib.hid hrun1
    have HR2 := Lib.hid hrun2
    clear hrun1 hrun2
    go_wp2_with (first | (at_builtin; refine wpList_app rfl (.tmp 98) (.tmp 99) rfl rfl rfl rfl HR1.out ?_) | (at_builtin; refine wpList_app rfl (.tmp 100) (.tmp 101) rfl rfl rfl rfl HR2.out ?_))
    have E2 := G2.out
    have E3 := G3.out
    subst E2
    subst E3
    refine (same_yes _ _ _ _ VV3'.out VV13'.out (by omega)).mono ?_
    rintro e y1 ⟨rfl, hb⟩
    have F1 := Lib.hid (words_below hb FF.out)
    have D1 := Lib.hid (words_below hb VG13'.out)
    have L3 := Lib.hid (cnt_below hb K3.out)
    have L2 := Lib.hid (cnt_below hb K2.out)
    have L1 := Lib.hid (cnt_below hb K1.out)
    have BY := Lib.hid (below_call hb BX.out (Nat.le_refl _))
    clear hb FF VV3' VV13' VG13' K3 K2 K1 BX
    go_wp2_with fail
    refine (same_yes _ _ _ _ F1.out D1.out (by rw [List.length_append]; omega)).mono ?_
    rintro e y2 ⟨rfl, hb⟩
    obtain ⟨u30, u31, u3z⟩ := cnt_below hb L3.out
    obtain ⟨u20, u21, u2z⟩ := cnt_below hb L2.out
    obtain ⟨u10, u11, u1z⟩ := cnt_below hb L1.out
    have BW := Lib.hid (below_call hb BY.out (Nat.le_refl _))
    clear hb F1 D1 L3 L2 L1 BY
    go_wp2_with fail
    refine (awake_any _).mono ?_
    rintro e wz ⟨rfl, hb⟩
    have BZ := Lib.hid (below_call hb BW.out (Nat.le_refl _))
    clear hb
    go_wp2
    go_ret
    exact ⟨rfl, BZ.out⟩

set_option maxRecDepth 100000 in
set_option maxHeartbeats 4000000 in
theorem parts_z1 (zs : List Int) (xs : List AOp) (va : Option Addr) (vc : Nat) (a : Addr) (cap : Nat) (k : Nat) (t : Int) (R1 R2 : PR) (w : World) (hv : Words w (.slice va zs.length vc) zs) (hxs : xs = []) (hn : zs.length ≤ 200) (hm : xs.length ≤ 60) (t0 : 0 ≤ t) (t1 : t ≤ 255) (hk : k ≤ xs.length) (ht : t % ((xs.length : Int) + 1) = (k : Int)) (h1 : playR zs xs = R1) (h2 : playR zs (xs.take k) = R2) (he : R2.e ≠ 0) (g1 : R1.e = R2.e) (g2 : R1.i = R2.i) : Calls Try.prog 5 #[.slice va zs.length vc, .slice (some a) 0 cap, .int .u8 t] w (Ret (.bool true) w) := by
  subst hxs
  obtain rfl : k = 0 := by simpa using hk
  have HV := Lib.hid hv
  have H1 := Lib.hid h1
  have H2 := Lib.hid h2
  have hn' : ¬ 200 < zs.length := by omega
  have ht' : t % 1 = 0 := by omega
  clear ht
  have b1 : (R2.e != 0) = true := by simpa using he
  have G1 := Lib.hid g1
  have G2 := Lib.hid g2
  clear he g1 g2
  clear hv h1 h2
  go_enter Try.func5, Try.ntmps5
  go_wp2_with fail
  refine (play_val _ HV.out ⟨by simp, .inl ⟨rfl, _, _, rfl⟩⟩ H1.out).mono ?_
  rintro e q1 ⟨vv1, vg1, rfl, ov, og, hb⟩
  obtain ⟨o1, g1, r1, c1, i1, e1⟩ := R1
  simp only at *
  have hy : Below w.heap.size w (q1.alloc (.cells #[.int .i64 r1, .int .i64 c1] 26)) := below_new hb (Nat.le_refl _) _
  have VV1 := Lib.hid (words_below (new_below q1 (.cells #[.int .i64 r1, .int .i64 c1] 26)) (own_words ov))
  have VG1 := Lib.hid (words_below (new_below q1 (.cells #[.int .i64 r1, .int .i64 c1] 26)) (own_words og))
  have C1 := Lib.hid (cnt_new q1 r1 c1)
  have BB1 := Lib.hid hy
  clear ov og hb hy
  go_wp2_with fail
  generalize q1.heap.size = b1' at *
  generalize q1.alloc (.cells #[.int .i64 r1, .int .i64 c1] 26) = w1 at *
  refine (play_val _ (words_below BB1.out HV.out) ⟨by simp, .inl ⟨rfl, _, _, rfl⟩⟩ H2.out).mono ?_
  rintro e q2 ⟨vv2, vg2, rfl, ov, og, hb⟩
  obtain ⟨o2, g2, r2, c2, i2, e2⟩ := R2
  simp only at *
  have hn2 := new_below q2 (.cells #[.int .i64 r2, .int .i64 c2] 26)
  have hb12 : Below w1.heap.size w1 (q2.alloc (.cells #[.int .i64 r2, .int .i64 c2] 26)) := below_new hb (Nat.le_refl _) _
  have VV2 := Lib.hid (words_below hn2 (own_words ov))
  have VG2 := Lib.hid (own_below hn2 og)
  have VV12 := Lib.hid (words_below hb12 VV1.out)
  have VG12 := Lib.hid (words_below hb12 VG1.out)
  have C2 := Lib.hid (cnt_new q2 r2 c2)
  have C12 := Lib.hid (cnt_below hb12 C1.out)
  have BB2 : Hid (Below w.heap.size w (q2.alloc (.cells #[.int .i64 r2, .int .i64 c2] 26))) := below_call hb12 BB1.out (Nat.le_refl _)
  clear ov og hb hn2 hb12 VV1 VG1 C1
  have E1 := G1.out
  have E2 := G2.out
  subst E1
  subst E2
  go_wp2_with fail
  refine (awake_any _).mono ?_
  rintro e wz ⟨rfl, hb⟩
  have BZ := Lib.hid (below_call hb BB2.out (Nat.le_refl _))
  clear hb
  go_wp2
  go_ret
  exact ⟨rfl, BZ.out⟩

set_option maxRecDepth 100000 in
set_option maxHeartbeats 4000000 in
theorem parts_z2 (zs : List Int) (xs : List AOp) (va : Option Addr) (vc : Nat) (a : Addr) (cap : Nat) (k : Nat) (t : Int) (R1 R2 R3 : PR) (w : World) (hv : Words w (.slice va zs.length vc) zs) (hxs : xs = []) (hn : zs.length ≤ 200) (hm : xs.length ≤ 60) (t0 : 0 ≤ t) (t1 : t ≤ 255) (hk : k ≤ xs.length) (ht : t % ((xs.length : Int) + 1) = (k : Int)) (h1 : playR zs xs = R1) (h2 : playR zs (xs.take k) = R2) (h3 : playR R2.out (xs.drop k) = R3) (he2 : R2.e = 0) (he : R3.e ≠ 0) (g1 : R1.e = R3.e) (g2 : R1.i = k + R3.i) (g3 : 0 ≤ R3.i ∧ R3.i ≤ 60) : Calls Try.prog 5 #[.slice va zs.length vc, .slice (some a) 0 cap, .int .u8 t] w (Ret (.bool true) w) := by
  subst hxs
  obtain rfl : k = 0 := by simpa using hk
  have HV := Lib.hid hv
  have H1 := Lib.hid h1
  have H2 := Lib.hid h2
  have H3 := Lib.hid h3
  have hn' : ¬ 200 < zs.length := by omega
  have ht' : t % 1 = 0 := by omega
  clear ht
  have b1 : (R3.e != 0) = true := by simpa using he
  have G0 := Lib.hid he2
  have G1 := Lib.hid g1
  have G2 := Lib.hid g2
  obtain ⟨g3, g4⟩ := g3
  clear he he2 g1 g2
  clear hv h1 h2 h3
  go_enter Try.func5, Try.ntmps5
  go_wp2_with fail
  refine (play_val _ HV.out ⟨by simp, .inl ⟨rfl, _, _, rfl⟩⟩ H1.out).mono ?_
  rintro e q1 ⟨vv1, vg1, rfl, ov, og, hb⟩
  obtain ⟨o1, g1, r1, c1, i1, e1⟩ := R1
  simp only at *
  have hy : Below w.heap.size w (q1.alloc (.cells #[.int .i64 r1, .int .i64 c1] 26)) := below_new hb (Nat.le_refl _) _
  have VV1 := Lib.hid (words_below (new_below q1 (.cells #[.int .i64 r1, .int .i64 c1] 26)) (own_words ov))
  have VG1 := Lib.hid (words_below (new_below q1 (.cells #[.int .i64 r1, .int .i64 c1] 26)) (own_words og))
  have C1 := Lib.hid (cnt_new q1 r1 c1)
  have BB1 := Lib.hid hy
  clear ov og hb hy
  go_wp2_with fail
  generalize q1.heap.size = b1' at *
  generalize q1.alloc (.cells #[.int .i64 r1, .int .i64 c1] 26) = w1 at *
  refine (play_val _ (words_below BB1.out HV.out) ⟨by simp, .inl ⟨rfl, _, _, rfl⟩⟩ H2.out).mono ?_
  rintro e q2 ⟨vv2, vg2, rfl, ov, og, hb⟩
  obtain ⟨o2, g2, r2, c2, i2, e2⟩ := R2
  simp only at *
  have hn2 := new_below q2 (.cells #[.int .i64 r2, .int .i64 c2] 26)
  have hb12 : Below w1.heap.size w1 (q2.alloc (.cells #[.int .i64 r2, .int .i64 c2] 26)) := below_new hb (Nat.le_refl _) _
  have VV2 := Lib.hid (words_below hn2 (own_words ov))
  have VG2 := Lib.hid (own_below hn2 og)
  have VV12 := Lib.hid (words_below hb12 VV1.out)
  have VG12 := Lib.hid (words_below hb12 VG1.out)
  have C2 := Lib.hid (cnt_new q2 r2 c2)
  have C12 := Lib.hid (cnt_below hb12 C1.out)
  have BB2 : Hid (Below w.heap.size w (q2.alloc (.cells #[.int .i64 r2, .int .i64 c2] 26))) := below_call hb12 BB1.out (Nat.le_refl _)
  clear ov og hb hn2 hb12 VV1 VG1 C1
  have E0 := G0.out
  subst E0
  go_wp2_with fail
  all_goals
    generalize q2.heap.size = b2' at *
    generalize q2.alloc (.cells #[.int .i64 r2, .int .i64 c2] 26) = w2 at *
    refine (play_val _ VV2.out ⟨by simp, .inl ⟨rfl, _, _, rfl⟩⟩ H3.out).mono ?_
    rintro e q3 ⟨vv3, vg3, rfl, ov, og, hb⟩
    obtain ⟨o3, g3, r3, c3, i3, e3⟩ := R3
    simp only at *
    have hn3 := new_below q3 (.cells #[.int .i64 r3, .int .i64 c3] 26)
    have hb23 : Below w2.heap.size w2 (q3.alloc (.cells #[.int .i64 r3, .int .i64 c3] 26)) := below_new hb (Nat.le_refl _) _
    have BB3 : Hid (Below w.heap.size w (q3.alloc (.cells #[.int .i64 r3, .int .i64 c3] 26))) := below_call hb23 BB2.out (Nat.le_refl _)
    clear ov og hb hn3 hb23
    have E1 := G1.out
    have E2 := G2.out
    subst E1
    subst E2
    go_wp2_with fail
    refine (awake_any _).mono ?_
    rintro e wz ⟨rfl, hb⟩
    have BZ := Lib.hid (below_call hb BB3.out (Nat.le_refl _))
    clear hb
    go_wp2
    go_ret
    exact ⟨rfl, BZ.out⟩

set_option maxRecDepth 100000 in
set_option maxHeartbeats 4000000 in
theorem parts_z3 (zs : List Int) (xs : List AOp) (va : Option Addr) (vc : Nat) (a : Addr) (cap : Nat) (k : Nat) (t : Int) (R1 R2 R3 : PR) (w : World) (hv : Words w (.slice va zs.length vc) zs) (hxs : xs = []) (hn : zs.length ≤ 200) (hm : xs.length ≤ 60) (t0 : 0 ≤ t) (t1 : t ≤ 255) (hk : k ≤ xs.length) (ht : t % ((xs.length : Int) + 1) = (k : Int)) (h1 : playR zs xs = R1) (h2 : playR zs (xs.take k) = R2) (h3 : playR R2.out (xs.drop k) = R3) (he2 : R2.e = 0) (he3 : R3.e = 0) (g1 : R1.e = 0) (g2 : R1.out = R3.out) (g3 : R1.got = R2.got ++ R3.got) (g4 : R1.r = R2.r + R3.r) (g5 : R1.c = R2.c + R3.c) (g6 : 0 ≤ R2.r ∧ R2.r ≤ 100000 ∧ 0 ≤ R3.r ∧ R3.r ≤ 100000 ∧ 0 ≤ R2.c ∧ R2.c ≤ 100000 ∧ 0 ≤ R3.c ∧ R3.c ≤ 100000) (g7 : R2.got.length + R3.got.length ≤ 1000) (g8 : R3.out.length ≤ 1601) : Calls Try.prog 5 #[.slice va zs.length vc, .slice (some a) 0 cap, .int .u8 t] w (Ret (.bool true) w) := by
  subst hxs
  obtain rfl : k = 0 := by simpa using hk
  have HV := Lib.hid hv
  have H1 := Lib.hid h1
  have H2 := Lib.hid h2
  have H3 := Lib.hid h3
  have hn' : ¬ 200 < zs.length := by omega
  have ht' : t % 1 = 0 := by omega
  clear ht
  have G0 := Lib.hid he2
  have G00 := Lib.hid he3
  have G1 := Lib.hid g1
  have G2 := Lib.hid g2
  have G3 := Lib.hid g3
  have G4 := Lib.hid g4
  have G5 := Lib.hid g5
  obtain ⟨s1, s2, s3, s4, s5, s6, s7, s8⟩ := g6
  clear he2 he3 g1 g2 g3 g4 g5
  clear hv h1 h2 h3
  go_enter Try.func5, Try.ntmps5
  go_wp2_with fail
  refine (play_val _ HV.out ⟨by simp, .inl ⟨rfl, _, _, rfl⟩⟩ H1.out).mono ?_
  rintro e q1 ⟨vv1, vg1, rfl, ov, og, hb⟩
  obtain ⟨o1, g1, r1, c1, i1, e1⟩ := R1
  simp only at *
  have hy : Below w.heap.size w (q1.alloc (.cells #[.int .i64 r1, .int .i64 c1] 26)) := below_new hb (Nat.le_refl _) _
  have VV1 := Lib.hid (words_below (new_below q1 (.cells #[.int .i64 r1, .int .i64 c1] 26)) (own_words ov))
  have VG1 := Lib.hid (words_below (new_below q1 (.cells #[.int .i64 r1, .int .i64 c1] 26)) (own_words og))
  have C1 := Lib.hid (cnt_new q1 r1 c1)
  have BB1 := Lib.hid hy
  clear ov og hb hy
  go_wp2_with fail
  generalize q1.heap.size = b1' at *
  generalize q1.alloc (.cells #[.int .i64 r1, .int .i64 c1] 26) = w1 at *
  refine (play_val _ (words_below BB1.out HV.out) ⟨by simp, .inl ⟨rfl, _, _, rfl⟩⟩ H2.out).mono ?_
  rintro e q2 ⟨vv2, vg2, rfl, ov, og, hb⟩
  obtain ⟨o2, g2, r2, c2, i2, e2⟩ := R2
  simp only at *
  have hn2 := new_below q2 (.cells #[.int .i64 r2, .int .i64 c2] 26)
  have hb12 : Below w1.heap.size w1 (q2.alloc (.cells #[.int .i64 r2, .int .i64 c2] 26)) := below_new hb (Nat.le_refl _) _
  have VV2 := Lib.hid (words_below hn2 (own_words ov))
  have VG2 := Lib.hid (own_below hn2 og)
  have VV12 := Lib.hid (words_below hb12 VV1.out)
  have VG12 := Lib.hid (words_below hb12 VG1.out)
  have C2 := Lib.hid (cnt_new q2 r2 c2)
  have C12 := Lib.hid (cnt_below hb12 C1.out)
  have BB2 : Hid (Below w.heap.size w (q2.alloc (.cells #[.int .i64 r2, .int .i64 c2] 26))) := below_call hb12 BB1.out (Nat.le_refl _)
  clear ov og hb hn2 hb12 VV1 VG1 C1
  have E0 := G0.out
  subst E0
  go_wp2_with fail
  all_goals
    generalize q2.heap.size = b2' at *
    generalize q2.alloc (.cells #[.int .i64 r2, .int .i64 c2] 26) = w2 at *
    refine (play_val _ VV2.out ⟨by simp, .inl ⟨rfl, _, _, rfl⟩⟩ H3.out).mono ?_
    rintro e q3 ⟨vv3, vg3, rfl, ov, og, hb⟩
    obtain ⟨o3, g3, r3, c3, i3, e3⟩ := R3
    simp only at *
    have hn3 := new_below q3 (.cells #[.int .i64 r3, .int .i64 c3] 26)
    have hb23 : Below w2.heap.size w2 (q3.alloc (.cells #[.int .i64 r3, .int .i64 c3] 26)) := below_new hb (Nat.le_refl _) _
    have BB3 : Hid (Below w.heap.size w (q3.alloc (.cells #[.int .i64 r3, .int .i64 c3] 26))) := below_call hb23 BB2.out (Nat.le_refl _)
    have VV3 := Lib.hid (words_below hn3 (own_words ov))
    have VG3 := Lib.hid (own_below hn3 og)
    have VG23 := Lib.hid (own_below hb23 VG2.out)
    have VV13 := Lib.hid (words_below hb23 VV12.out)
    have VG13 := Lib.hid (words_below hb23 VG12.out)
    have C3 := Lib.hid (cnt_new q3 r3 c3)
    have C23 := Lib.hid (cnt_below hb23 C2.out)
    have C13 := Lib.hid (cnt_below hb23 C12.out)
    clear ov og hb hn3 hb23 VV2 VG2 VV12 VG12 C2 C12 BB2 BB1
    have E0 := G00.out
    subst E0
    have E1 := G1.out
    subst E1
    have E4 := G4.out
    have E5 := G5.out
    subst E4
    subst E5
    have hne : q3.heap.size + 1 = (q3.alloc (.cells #[.int .i64 r3, .int .i64 c3] 26)).heap.size := by simp
    obtain ⟨f1, x1, hrun1, hown1, hgr1⟩ := app_run (base := q3.heap.size + 1) (W := (q3.alloc (.cells #[.int .i64 r3, .int .i64 c3] 26)).alloc (.cells #[] 32)) (v := .slice (some ⟨q3.heap.size + 1, 0, none⟩) 0 0) (a := []) ⟨rfl, .inr ⟨q3.heap.size + 1, 0, #[], rfl, Nat.le_refl _, by rw [hne]; exact (MapKept.heap_alloc _ _).1, Nat.le_refl _, Nat.zero_le _, rfl, rfl⟩⟩ (own_below (new_below _ _) VG23.out) (by simp only [List.length_nil] at *; omega) (by simp)
    have hbx1 : Below (q3.alloc (.cells #[.int .i64 r3, .int .i64 c3] 26)).heap.size (q3.alloc (.cells #[.int .i64 r3, .int .i64 c3] 26)) x1 := (new_below _ _).grown hgr1 (by simp) (by simp [Value.ownBlock])
    obtain ⟨f2, x2, hrun2, hown2, hgr2⟩ := app_run hown1 (own_below hbx1 VG3.out) (by simp only [List.nil_append] at *; omega) (by rw [hne]; exact hbx1.size)
    have hbx2 : Below (q3.alloc (.cells #[.int .i64 r3, .int .i64 c3] 26)).heap.size (q3.alloc (.cells #[.int .i64 r3, .int .i64 c3] 26)) x2 := hbx1.grown hgr2 hbx1.size (fun j hj => by rw [← hne]; exact (hown1.lt j hj).1)
    rw [List.nil_append] at hown2
    have FF : Hid (Words x2 f2 (g2 ++ g3)) := own_words (w := q3.alloc (.cells #[.int .i64 r3, .int .i64 c3] 26)) (by unfold Own; rw [← hne]; exact hown2)
    have VV3' := Lib.hid (words_below hbx2 VV3.out)
    have VV13' := Lib.hid (words_below hbx2 VV13.out)
    have VG13' := Lib.hid (words_below hbx2 VG13.out)
    have K3 := Lib.hid (cnt_below hbx2 C3.out)
    have K2 := Lib.hid (cnt_below hbx2 C23.out)
    have K1 := Lib.hid (cnt_below hbx2 C13.out)
    have BX := Lib.hid (below_call hbx2 BB3.out (Nat.le_refl _))
    have hq : ∀ (r c : Int) (w : World), (binOp .eql 26 (.agg #[.int .i64 r, .int .i64 c]) (.agg #[.int .i64 r, .int .i64 c])).run Try.prog w = .ok (.bool true) w := fun r c w => eq_cnt r c w
    clear hne
    clear hown1 hgr1 hbx1 hown2 hgr2 hbx2 VV3 VG3 VG23 VV13 VG13 C3 C23 C13 BB3
    have HR1 := Lib.hid hrun1
    have HR2 := Lib.hid hrun2
    clear hrun1 hrun2
    go_wp2_with (first | (at_builtin; refine wpList_app rfl (.tmp 98) (.tmp 99) rfl rfl rfl rfl HR1.out ?_) | (at_builtin; refine wpList_app rfl (.tmp 100) (.tmp 101) rfl rfl rfl rfl HR2.out ?_))
    have E2 := G2.out
    have E3 := G3.out
    subst E2
    subst E3
    refine (same_yes _ _ _ _ VV3'.out VV13'.out (by omega)).mono ?_
    rintro e y1 ⟨rfl, hb⟩
    have F1 := Lib.hid (words_below hb FF.out)
    have D1 := Lib.hid (words_below hb VG13'.out)
    have L3 := Lib.hid (cnt_below hb K3.out)
    have L2 := Lib.hid (cnt_below hb K2.out)
    have L1 := Lib.hid (cnt_below hb K1.out)
    have BY := Lib.hid (below_call hb BX.out (Nat.le_refl _))
    clear hb FF VV3' VV13' VG13' K3 K2 K1 BX
    go_wp2_with fail
    refine (same_yes _ _ _ _ F1.out D1.out (by rw [List.length_append]; omega)).mono ?_
    rintro e y2 ⟨rfl, hb⟩
    obtain ⟨u30, u31, u3z⟩ := cnt_below hb L3.out
    obtain ⟨u20, u21, u2z⟩ := cnt_below hb L2.out
    obtain ⟨u10, u11, u1z⟩ := cnt_below hb L1.out
    have BW := Lib.hid (below_call hb BY.out (Nat.le_refl _))
    clear hb F1 D1 L3 L2 L1 BY
    go_wp2_with fail
    refine (awake_any _).mono ?_
    rintro e wz ⟨rfl, hb⟩
    have BZ := Lib.hid (below_call hb BW.out (Nat.le_refl _))
    clear hb
    go_wp2
    go_ret
    exact ⟨rfl, BZ.out⟩

set_option maxRecDepth 100000 in
set_option maxHeartbeats 4000000 in
theorem parts_m1 (zs : List Int) (xs : List AOp) (va : Option Addr) (vc : Nat) (lb lo cap : Nat) (k : Nat) (t : Int) (R1 R2 : PR) (w : World) (hv : Words w (.slice va zs.length vc) zs) (hwf : ∀ x ∈ xs, (Lit.int .i64 x.k).wf = true) (hcap : xs.length ≤ cap) (hlb : lb < w.heap.size) (hx : ∀ (i : Nat) (x : AOp), xs[i]? = some x → w.cell? ⟨lb, lo + i * 5, none⟩ = some (.int .i64 x.k) ∧ w.cell? ⟨lb, lo + i * 5 + 1, none⟩ = some (.int .i64 x.a) ∧ w.cell? ⟨lb, lo + i * 5 + 2, none⟩ = some (.int .i64 x.b) ∧ w.cell? ⟨lb, lo + i * 5 + 3, none⟩ = some (.int .i64 x.n) ∧ w.cell? ⟨lb, lo + i * 5 + 4, none⟩ = some (.int .u64 x.v)) (hpos : 0 < xs.length) (hn : zs.length ≤ 200) (hm : xs.length ≤ 60) (t0 : 0 ≤ t) (t1 : t ≤ 255) (hk : k ≤ xs.length) (ht : t % ((xs.length : Int) + 1) = (k : Int)) (h1 : playR zs xs = R1) (h2 : playR zs (xs.take k) = R2) (he : R2.e ≠ 0) (g1 : R1.e = R2.e) (g2 : R1.i = R2.i) : Calls Try.prog 5 #[.slice va zs.length vc, .slice (some ⟨lb, lo, none⟩) xs.length cap, .int .u8 t] w (Ret (.bool true) w) := by
  have HV := Lib.hid hv
  have H1 := Lib.hid h1
  have H2 := Lib.hid h2
  have hn' : ¬ 200 < zs.length := by omega
  have HX := Lib.hid hx
  have HW := Lib.hid hwf
  have hm' : ¬ 60 < xs.length := by omega
  have LM : Hid (OpsAt w (.slice (some ⟨lb, lo, none⟩) xs.length cap) xs) := ⟨hwf, .inr ⟨hpos, lb, lo, cap, rfl, hcap, hlb, hx⟩⟩
  have LT : Hid (OpsAt w (.slice (some ⟨lb, lo, none⟩) k cap) (xs.take k)) := ops_take hwf hcap hlb hx hk rfl
  clear hx hwf
  have j1 : (k : Int) ≤ (xs.length : Int) := by omega
  have j2 : (xs.length : Int) ≤ (cap : Int) := by omega
  have j3 : k ≤ cap := by omega
  have b1 : (R2.e != 0) = true := by simpa using he
  have G1 := Lib.hid g1
  have G2 := Lib.hid g2
  clear he g1 g2
  clear hv h1 h2
  go_enter Try.func5, Try.ntmps5
  go_wp2_with fail
  refine (play_val _ HV.out (opsAt_below (Below.refl _ _) LM.out) H1.out).mono ?_
  rintro e q1 ⟨vv1, vg1, rfl, ov, og, hb⟩
  obtain ⟨o1, g1, r1, c1, i1, e1⟩ := R1
  simp only at *
  have hy : Below w.heap.size w (q1.alloc (.cells #[.int .i64 r1, .int .i64 c1] 26)) := below_new hb (Nat.le_refl _) _
  have VV1 := Lib.hid (words_below (new_below q1 (.cells #[.int .i64 r1, .int .i64 c1] 26)) (own_words ov))
  have VG1 := Lib.hid (words_below (new_below q1 (.cells #[.int .i64 r1, .int .i64 c1] 26)) (own_words og))
  have C1 := Lib.hid (cnt_new q1 r1 c1)
  have BB1 := Lib.hid hy
  clear ov og hb hy
  go_wp2_with fail
  generalize q1.heap.size = b1' at *
  generalize q1.alloc (.cells #[.int .i64 r1, .int .i64 c1] 26) = w1 at *
  refine (play_val _ (words_below BB1.out HV.out) (opsAt_below BB1.out LT.out) H2.out).mono ?_
  rintro e q2 ⟨vv2, vg2, rfl, ov, og, hb⟩
  obtain ⟨o2, g2, r2, c2, i2, e2⟩ := R2
  simp only at *
  have hn2 := new_below q2 (.cells #[.int .i64 r2, .int .i64 c2] 26)
  have hb12 : Below w1.heap.size w1 (q2.alloc (.cells #[.int .i64 r2, .int .i64 c2] 26)) := below_new hb (Nat.le_refl _) _
  have VV2 := Lib.hid (words_below hn2 (own_words ov))
  have VG2 := Lib.hid (own_below hn2 og)
  have VV12 := Lib.hid (words_below hb12 VV1.out)
  have VG12 := Lib.hid (words_below hb12 VG1.out)
  have C2 := Lib.hid (cnt_new q2 r2 c2)
  have C12 := Lib.hid (cnt_below hb12 C1.out)
  have BB2 : Hid (Below w.heap.size w (q2.alloc (.cells #[.int .i64 r2, .int .i64 c2] 26))) := below_call hb12 BB1.out (Nat.le_refl _)
  clear ov og hb hn2 hb12 VV1 VG1 C1
  have E1 := G1.out
  have E2 := G2.out
  subst E1
  subst E2
  go_wp2_with fail
  refine (awake_any _).mono ?_
  rintro e wz ⟨rfl, hb⟩
  have BZ := Lib.hid (below_call hb BB2.out (Nat.le_refl _))
  clear hb
  go_wp2
  go_ret
  exact ⟨rfl, BZ.out⟩

set_option maxRecDepth 100000 in
set_option maxHeartbeats 4000000 in
theorem parts_m2 (zs : List Int) (xs : List AOp) (va : Option Addr) (vc : Nat) (lb lo cap : Nat) (k : Nat) (t : Int) (R1 R2 R3 : PR) (w : World) (hv : Words w (.slice va zs.length vc) zs) (hwf : ∀ x ∈ xs, (Lit.int .i64 x.k).wf = true) (hcap : xs.length ≤ cap) (hlb : lb < w.heap.size) (hx : ∀ (i : Nat) (x : AOp), xs[i]? = some x → w.cell? ⟨lb, lo + i * 5, none⟩ = some (.int .i64 x.k) ∧ w.cell? ⟨lb, lo + i * 5 + 1, none⟩ = some (.int .i64 x.a) ∧ w.cell? ⟨lb, lo + i * 5 + 2, none⟩ = some (.int .i64 x.b) ∧ w.cell? ⟨lb, lo + i * 5 + 3, none⟩ = some (.int .i64 x.n) ∧ w.cell? ⟨lb, lo + i * 5 + 4, none⟩ = some (.int .u64 x.v)) (hpos : 0 < xs.length) (hn : zs.length ≤ 200) (hm : xs.length ≤ 60) (t0 : 0 ≤ t) (t1 : t ≤ 255) (hk : k ≤ xs.length) (ht : t % ((xs.length : Int) + 1) = (k : Int)) (h1 : playR zs xs = R1) (h2 : playR zs (xs.take k) = R2) (h3 : playR R2.out (xs.drop k) = R3) (he2 : R2.e = 0) (he : R3.e ≠ 0) (g1 : R1.e = R3.e) (g2 : R1.i = k + R3.i) (g3 : 0 ≤ R3.i ∧ R3.i ≤ 60) : Calls Try.prog 5 #[.slice va zs.length vc, .slice (some ⟨lb, lo, none⟩) xs.length cap, .int .u8 t] w (Ret (.bool true) w) := by
  have HV := Lib.hid hv
  have H1 := Lib.hid h1
  have H2 := Lib.hid h2
  have H3 := Lib.hid h3
  have hn' : ¬ 200 < zs.length := by omega
  have HX := Lib.hid hx
  have HW := Lib.hid hwf
  have hm' : ¬ 60 < xs.length := by omega
  have LM : Hid (OpsAt w (.slice (some ⟨lb, lo, none⟩) xs.length cap) xs) := ⟨hwf, .inr ⟨hpos, lb, lo, cap, rfl, hcap, hlb, hx⟩⟩
  have LT : Hid (OpsAt w (.slice (some ⟨lb, lo, none⟩) k cap) (xs.take k)) := ops_take hwf hcap hlb hx hk rfl
  clear hx hwf
  have j1 : (k : Int) ≤ (xs.length : Int) := by omega
  have j2 : (xs.length : Int) ≤ (cap : Int) := by omega
  have j3 : k ≤ cap := by omega
  have b1 : (R3.e != 0) = true := by simpa using he
  have G0 := Lib.hid he2
  have G1 := Lib.hid g1
  have G2 := Lib.hid g2
  obtain ⟨g3, g4⟩ := g3
  clear he he2 g1 g2
  clear hv h1 h2 h3
  go_enter Try.func5, Try.ntmps5
  go_wp2_with fail
  refine (play_val _ HV.out (opsAt_below (Below.refl _ _) LM.out) H1.out).mono ?_
  rintro e q1 ⟨vv1, vg1, rfl, ov, og, hb⟩
  obtain ⟨o1, g1, r1, c1, i1, e1⟩ := R1
  simp only at *
  have hy : Below w.heap.size w (q1.alloc (.cells #[.int .i64 r1, .int .i64 c1] 26)) := below_new hb (Nat.le_refl _) _
  have VV1 := Lib.hid (words_below (new_below q1 (.cells #[.int .i64 r1, .int .i64 c1] 26)) (own_words ov))
  have VG1 := Lib.hid (words_below (new_below q1 (.cells #[.int .i64 r1, .int .i64 c1] 26)) (own_words og))
  have C1 := Lib.hid (cnt_new q1 r1 c1)
  have BB1 := Lib.hid hy
  clear ov og hb hy
  go_wp2_with fail
  generalize q1.heap.size = b1' at *
  generalize q1.alloc (.cells #[.int .i64 r1, .int .i64 c1] 26) = w1 at *
  refine (play_val _ (words_below BB1.out HV.out) (opsAt_below BB1.out LT.out) H2.out).mono ?_
  rintro e q2 ⟨vv2, vg2, rfl, ov, og, hb⟩
  obtain ⟨o2, g2, r2, c2, i2, e2⟩ := R2
  simp only at *
  have hn2 := new_below q2 (.cells #[.int .i64 r2, .int .i64 c2] 26)
  have hb12 : Below w1.heap.size w1 (q2.alloc (.cells #[.int .i64 r2, .int .i64 c2] 26)) := below_new hb (Nat.le_refl _) _
  have VV2 := Lib.hid (words_below hn2 (own_words ov))
  have VG2 := Lib.hid (own_below hn2 og)
  have VV12 := Lib.hid (words_below hb12 VV1.out)
  have VG12 := Lib.hid (words_below hb12 VG1.out)
  have C2 := Lib.hid (cnt_new q2 r2 c2)
  have C12 := Lib.hid (cnt_below hb12 C1.out)
  have BB2 : Hid (Below w.heap.size w (q2.alloc (.cells #[.int .i64 r2, .int .i64 c2] 26))) := below_call hb12 BB1.out (Nat.le_refl _)
  clear ov og hb hn2 hb12 VV1 VG1 C1
  have E0 := G0.out
  subst E0
  go_wp2_with fail
  all_goals
    generalize q2.heap.size = b2' at *
    generalize q2.alloc (.cells #[.int .i64 r2, .int .i64 c2] 26) = w2 at *
    refine (play_val _ VV2.out (opsAt_below BB2.out (ops_drop HW.out hlb HX.out (by first | rfl | omega) (by omega) (by intro _; omega))) H3.out).mono ?_
    rintro e q3 ⟨vv3, vg3, rfl, ov, og, hb⟩
    obtain ⟨o3, g3, r3, c3, i3, e3⟩ := R3
    simp only at *
    have hn3 := new_below q3 (.cells #[.int .i64 r3, .int .i64 c3] 26)
    have hb23 : Below w2.heap.size w2 (q3.alloc (.cells #[.int .i64 r3, .int .i64 c3] 26)) := below_new hb (Nat.le_refl _) _
    have BB3 : Hid (Below w.heap.size w (q3.alloc (.cells #[.int .i64 r3, .int .i64 c3] 26))) := below_call hb23 BB2.out (Nat.le_refl _)
    clear ov og hb hn3 hb23
    have E1 := G1.out
    have E2 := G2.out
    subst E1
    subst E2
    go_wp2_with fail
    refine (awake_any _).mono ?_
    rintro e wz ⟨rfl, hb⟩
    have BZ := Lib.hid (below_call hb BB3.out (Nat.le_refl _))
    clear hb
    go_wp2
    go_ret
    exact ⟨rfl, BZ.out⟩

set_option maxRecDepth 100000 in
set_option maxHeartbeats 4000000 in
theorem parts_m3 (zs : List Int) (xs : List AOp) (va : Option Addr) (vc : Nat) (lb lo cap : Nat) (k : Nat) (t : Int) (R1 R2 R3 : PR) (w : World) (hv : Words w (.slice va zs.length vc) zs) (hwf : ∀ x ∈ xs, (Lit.int .i64 x.k).wf = true) (hcap : xs.length ≤ cap) (hlb : lb < w.heap.size) (hx : ∀ (i : Nat) (x : AOp), xs[i]? = some x → w.cell? ⟨lb, lo + i * 5, none⟩ = some (.int .i64 x.k) ∧ w.cell? ⟨lb, lo + i * 5 + 1, none⟩ = some (.int .i64 x.a) ∧ w.cell? ⟨lb, lo + i * 5 + 2, none⟩ = some (.int .i64 x.b) ∧ w.cell? ⟨lb, lo + i * 5 + 3, none⟩ = some (.int .i64 x.n) ∧ w.cell? ⟨lb, lo + i * 5 + 4, none⟩ = some (.int .u64 x.v)) (hpos : 0 < xs.length) (hn : zs.length ≤ 200) (hm : xs.length ≤ 60) (t0 : 0 ≤ t) (t1 : t ≤ 255) (hk : k ≤ xs.length) (ht : t % ((xs.length : Int) + 1) = (k : Int)) (h1 : playR zs xs = R1) (h2 : playR zs (xs.take k) = R2) (h3 : playR R2.out (xs.drop k) = R3) (he2 : R2.e = 0) (he3 : R3.e = 0) (g1 : R1.e = 0) (g2 : R1.out = R3.out) (g3 : R1.got = R2.got ++ R3.got) (g4 : R1.r = R2.r + R3.r) (g5 : R1.c = R2.c + R3.c) (g6 : 0 ≤ R2.r ∧ R2.r ≤ 100000 ∧ 0 ≤ R3.r ∧ R3.r ≤ 100000 ∧ 0 ≤ R2.c ∧ R2.c ≤ 100000 ∧ 0 ≤ R3.c ∧ R3.c ≤ 100000) (g7 : R2.got.length + R3.got.length ≤ 1000) (g8 : R3.out.length ≤ 1601) : Calls Try.prog 5 #[.slice va zs.length vc, .slice (some ⟨lb, lo, none⟩) xs.length cap, .int .u8 t] w (Ret (.bool true) w) := by
  have HV := Lib.hid hv
  have H1 := Lib.hid h1
  have H2 := Lib.hid h2
  have H3 := Lib.hid h3
  have hn' : ¬ 200 < zs.length := by omega
  have HX := Lib.hid hx
  have HW := Lib.hid hwf
  have hm' : ¬ 60 < xs.length := by omega
  have LM : Hid (OpsAt w (.slice (some ⟨lb, lo, none⟩) xs.length cap) xs) := ⟨hwf, .inr ⟨hpos, lb, lo, cap, rfl, hcap, hlb, hx⟩⟩
  have LT : Hid (OpsAt w (.slice (some ⟨lb, lo, none⟩) k cap) (xs.take k)) := ops_take hwf hcap hlb hx hk rfl
  clear hx hwf
  have j1 : (k : Int) ≤ (xs.length : Int) := by omega
  have j2 : (xs.length : Int) ≤ (cap : Int) := by omega
  have j3 : k ≤ cap := by omega
  have G0 := Lib.hid he2
  have G00 := Lib.hid he3
  have G1 := Lib.hid g1
  have G2 := Lib.hid g2
  have G3 := Lib.hid g3
  have G4 := Lib.hid g4
  have G5 := Lib.hid g5
  obtain ⟨s1, s2, s3, s4, s5, s6, s7, s8⟩ := g6
  clear he2 he3 g1 g2 g3 g4 g5
  clear hv h1 h2 h3
  go_enter Try.func5, Try.ntmps5
  go_wp2_with fail
  refine (play_val _ HV.out (opsAt_below (Below.refl _ _) LM.out) H1.out).mono ?_
  rintro e q1 ⟨vv1, vg1, rfl, ov, og, hb⟩
  obtain ⟨o1, g1, r1, c1, i1, e1⟩ := R1
  simp only at *
  have hy : Below w.heap.size w (q1.alloc (.cells #[.int .i64 r1, .int .i64 c1] 26)) := below_new hb (Nat.le_refl _) _
  have VV1 := Lib.hid (words_below (new_below q1 (.cells #[.int .i64 r1, .int .i64 c1] 26)) (own_words ov))
  have VG1 := Lib.hid (words_below (new_below q1 (.cells #[.int .i64 r1, .int .i64 c1] 26)) (own_words og))
  have C1 := Lib.hid (cnt_new q1 r1 c1)
  have BB1 := Lib.hid hy
  clear ov og hb hy
  go_wp2_with fail
  generalize q1.heap.size = b1' at *
  generalize q1.alloc (.cells #[.int .i64 r1, .int .i64 c1] 26) = w1 at *
  refine (play_val _ (words_below BB1.out HV.out) (opsAt_below BB1.out LT.out) H2.out).mono ?_
  rintro e q2 ⟨vv2, vg2, rfl, ov, og, hb⟩
  obtain ⟨o2, g2, r2, c2, i2, e2⟩ := R2
  simp only at *
  have hn2 := new_below q2 (.cells #[.int .i64 r2, .int .i64 c2] 26)
  have hb12 : Below w1.heap.size w1 (q2.alloc (.cells #[.int .i64 r2, .int .i64 c2] 26)) := below_new hb (Nat.le_refl _) _
  have VV2 := Lib.hid (words_below hn2 (own_words ov))
  have VG2 := Lib.hid (own_below hn2 og)
  have VV12 := Lib.hid (words_below hb12 VV1.out)
  have VG12 := Lib.hid (words_below hb12 VG1.out)
  have C2 := Lib.hid (cnt_new q2 r2 c2)
  have C12 := Lib.hid (cnt_below hb12 C1.out)
  have BB2 : Hid (Below w.heap.size w (q2.alloc (.cells #[.int .i64 r2, .int .i64 c2] 26))) := below_call hb12 BB1.out (Nat.le_refl _)
  clear ov og hb hn2 hb12 VV1 VG1 C1
  have E0 := G0.out
  subst E0
  go_wp2_with fail
  all_goals
    generalize q2.heap.size = b2' at *
    generalize q2.alloc (.cells #[.int .i64 r2, .int .i64 c2] 26) = w2 at *
    refine (play_val _ VV2.out (opsAt_below BB2.out (ops_drop HW.out hlb HX.out (by first | rfl | omega) (by omega) (by intro _; omega))) H3.out).mono ?_
    rintro e q3 ⟨vv3, vg3, rfl, ov, og, hb⟩
    obtain ⟨o3, g3, r3, c3, i3, e3⟩ := R3
    simp only at *
    have hn3 := new_below q3 (.cells #[.int .i64 r3, .int .i64 c3] 26)
    have hb23 : Below w2.heap.size w2 (q3.alloc (.cells #[.int .i64 r3, .int .i64 c3] 26)) := below_new hb (Nat.le_refl _) _
    have BB3 : Hid (Below w.heap.size w (q3.alloc (.cells #[.int .i64 r3, .int .i64 c3] 26))) := below_call hb23 BB2.out (Nat.le_refl _)
    have VV3 := Lib.hid (words_below hn3 (own_words ov))
    have VG3 := Lib.hid (own_below hn3 og)
    have VG23 := Lib.hid (own_below hb23 VG2.out)
    have VV13 := Lib.hid (words_below hb23 VV12.out)
    have VG13 := Lib.hid (words_below hb23 VG12.out)
    have C3 := Lib.hid (cnt_new q3 r3 c3)
    have C23 := Lib.hid (cnt_below hb23 C2.out)
    have C13 := Lib.hid (cnt_below hb23 C12.out)
    clear ov og hb hn3 hb23 VV2 VG2 VV12 VG12 C2 C12 BB2 BB1
    have E0 := G00.out
    subst E0
    have E1 := G1.out
    subst E1
    have E4 := G4.out
    have E5 := G5.out
    subst E4
    subst E5
    have hne : q3.heap.size + 1 = (q3.alloc (.cells #[.int .i64 r3, .int .i64 c3] 26)).heap.size := by simp
    obtain ⟨f1, x1, hrun1, hown1, hgr1⟩ := app_run (base := q3.heap.size + 1) (W := (q3.alloc (.cells #[.int .i64 r3, .int .i64 c3] 26)).alloc (.cells #[] 32)) (v := .slice (some ⟨q3.heap.size + 1, 0, none⟩) 0 0) (a := []) ⟨rfl, .inr ⟨q3.heap.size + 1, 0, #[], rfl, Nat.le_refl _, by rw [hne]; exact (MapKept.heap_alloc _ _).1, Nat.le_refl _, Nat.zero_le _, rfl, rfl⟩⟩ (own_below (new_below _ _) VG23.out) (by simp only [List.length_nil] at *; omega) (by simp)
    have hbx1 : Below (q3.alloc (.cells #[.int .i64 r3, .int .i64 c3] 26)).heap.size (q3.alloc (.cells #[.int .i64 r3, .int .i64 c3] 26)) x1 := (new_below _ _).grown hgr1 (by simp) (by simp [Value.ownBlock])
    obtain ⟨f2, x2, hrun2, hown2, hgr2⟩ := app_run hown1 (own_below hbx1 VG3.out) (by simp only [List.nil_append] at *; omega) (by rw [hne]; exact hbx1.size)
    have hbx2 : Below (q3.alloc (.cells #[.int .i64 r3, .int .i64 c3] 26)).heap.size (q3.alloc (.cells #[.int .i64 r3, .int .i64 c3] 26)) x2 := hbx1.grown hgr2 hbx1.size (fun j hj => by rw [← hne]; exact (hown1.lt j hj).1)
    rw [List.nil_append] at hown2
    have FF : Hid (Words x2 f2 (g2 ++ g3)) := own_words (w := q3.alloc (.cells #[.int .i64 r3, .int .i64 c3] 26)) (by unfold Own; rw [← hne]; exact hown2)
    have VV3' := Lib.hid (words_below hbx2 VV3.out)
    have VV13' := Lib.hid (words_below hbx2 VV13.out)
    have VG13' := Lib.hid (words_below hbx2 VG13.out)
    have K3 := Lib.hid (cnt_below hbx2 C3.out)
    have K2 := Lib.hid (cnt_below hbx2 C23.out)
    have K1 := Lib.hid (cnt_below hbx2 C13.out)
    have BX := Lib.hid (below_call hbx2 BB3.out (Nat.le_refl _))
    have hq : ∀ (r c : Int) (w : World), (binOp .eql 26 (.agg #[.int .i64 r, .int .i64 c]) (.agg #[.int .i64 r, .int .i64 c])).run Try.prog w = .ok (.bool true) w := fun r c w => eq_cnt r c w
    clear hne
    clear hown1 hgr1 hbx1 hown2 hgr2 hbx2 VV3 VG3 VG23 VV13 VG13 C3 C23 C13 BB3
    have HR1 := Lib.hid hrun1
    have HR2 := Lib.hid hrun2
    clear hrun1 hrun2
    go_wp2_with (first | (at_builtin; refine wpList_app rfl (.tmp 98) (.tmp 99) rfl rfl rfl rfl HR1.out ?_) | (at_builtin; refine wpList_app rfl (.tmp 100) (.tmp 101) rfl rfl rfl rfl HR2.out ?_))
    have E2 := G2.out
    have E3 := G3.out
    subst E2
    subst E3
    refine (same_yes _ _ _ _ VV3'.out VV13'.out (by omega)).mono ?_
    rintro e y1 ⟨rfl, hb⟩
    have F1 := Lib.hid (words_below hb FF.out)
    have D1 := Lib.hid (words_below hb VG13'.out)
    have L3 := Lib.hid (cnt_below hb K3.out)
    have L2 := Lib.hid (cnt_below hb K2.out)
    have L1 := Lib.hid (cnt_below hb K1.out)
    have BY := Lib.hid (below_call hb BX.out (Nat.le_refl _))
    clear hb FF VV3' VV13' VG13' K3 K2 K1 BX
    go_wp2_with fail
    refine (same_yes _ _ _ _ F1.out D1.out (by rw [List.length_append]; omega)).mono ?_
    rintro e y2 ⟨rfl, hb⟩
    obtain ⟨u30, u31, u3z⟩ := cnt_below hb L3.out
    obtain ⟨u20, u21, u2z⟩ := cnt_below hb L2.out
    obtain ⟨u10, u11, u1z⟩ := cnt_below hb L1.out
    have BW := Lib.hid (below_call hb BY.out (Nat.le_refl _))
    clear hb F1 D1 L3 L2 L1 BY
    go_wp2_with fail
    refine (awake_any _).mono ?_
    rintro e wz ⟨rfl, hb⟩
    have BZ := Lib.hid (below_call hb BW.out (Nat.le_refl _))
    clear hb
    go_wp2
    go_ret
    exact ⟨rfl, BZ.out⟩

theorem plays_i (xs : List AOp) : ∀ (out got : List Int) (r c : Int) (i : Nat), 0 ≤ (plays out got r c i xs).i ∧ (plays out got r c i xs).i ≤ i + xs.length := by
  induction xs with
  | nil => intro out got r c i; simp [plays]
  | cons x l ih =>
    intro out got r c i
    unfold plays
    by_cases he : opE out.length x = 0
    · rw [if_pos he]
      have := ih (opOut out x) (got ++ opGot out x) (r + opR x) (c + opW x) (i + 1)
      simp only [List.length_cons]
      omega
    · rw [if_neg he]; simp; omega
theorem playR_i (zs : List Int) (xs : List AOp) (h : xs.length ≤ 60) : 0 ≤ (playR zs xs).i ∧ (playR zs xs).i ≤ 60 := by
  by_cases hc : chkA zs = 0
  · rw [playR_ok hc (by omega)]
    have := plays_i xs zs [] 0 0 0
    omega
  · rw [playR_no xs hc]; simp
theorem playR_bounds (zs : List Int) (xs : List AOp) (h : xs.length ≤ 60) (he : (playR zs xs).e = 0) : (0 ≤ (playR zs xs).r ∧ (playR zs xs).r ≤ 100000 ∧ 0 ≤ (playR zs xs).c ∧ (playR zs xs).c ≤ 100000) ∧ (playR zs xs).got.length ≤ xs.length ∧ (playR zs xs).out.length = zs.length ∧ zs.length ≤ 1601 ∧ chkA zs = 0 ∧ chkA (playR zs xs).out = 0 := by
  by_cases hc : chkA zs = 0
  · rw [playR_ok hc (by omega)] at he ⊢
    obtain ⟨_, h2, _⟩ := chk_ok hc
    have h1 := plays_bounds xs zs [] 0 0 0 h2 he
    have h3 := plays_length xs zs [] 0 0 0 he
    simp only [List.length_nil] at h1
    exact ⟨by omega, by omega, h3, h2, hc, chk_keeps hc h3 (plays_first xs zs [] 0 0 0 he)⟩
  · rw [playR_no xs hc] at he; exact absurd he hc

theorem fine_ops {H : Type} {enc : TypeId × Value → H} {w : World} {base : Nat} {held : Bool} {r : Reach} {b0 : Nat} {v : Value} {d : DataW H} {p : List MemPlace} (hv : Value.okWide Try.prog w r b0 23 v) (h : DataW.Trod enc Try.prog w base (fun _ => true) held 23 v d p) : v = .slice none 0 0 ∨ ∃ (a : Addr) (n c : Nat), v = .slice (some a) n c := by
  obtain ⟨a, len, cap, rfl⟩ := okWide_slice Try.underlying23 hv
  obtain ⟨fuel, hf⟩ := h
  rcases open_slice Try.underlying23 hf with ⟨hcs, _⟩ | ⟨a', len', cap', m, n, D, Pl, hcs, _⟩
  · simp [Value.cells] at hcs
    obtain ⟨rfl, rfl, rfl⟩ := hcs
    exact .inl rfl
  · simp [Value.cells] at hcs
    obtain ⟨rfl, rfl, rfl⟩ := hcs
    exact .inr ⟨_, _, _, rfl⟩
theorem open_u8 {H : Type} {enc : TypeId × Value → H} {w : World} {base : Nat} {spare : Nat → Bool} {held : Bool} {r : Reach} {b0 : Nat} {v : Value} {d : DataW H} {p : List MemPlace} (hv : Value.okWide Try.prog w r b0 5 v) (h : DataW.Trod enc Try.prog w base spare held 5 v d p) : ∃ n : Int, v = .int .u8 n ∧ 0 ≤ n ∧ n ≤ 255 := by
  obtain ⟨n, rfl, _, _, hw⟩ := open_int Try.underlying5 hv h
  exact ⟨n, rfl, bounds_u8 hw⟩

theorem parts_walk (zs : List Int) (xs : List AOp) (v l : Value) (t : Int) (w : World) (hv : Words w v zs) (hx : OpsAt w l xs) (hf : l = .slice none 0 0 ∨ ∃ (a : Addr) (n c : Nat), l = .slice (some a) n c) (t0 : 0 ≤ t) (t1 : t ≤ 255) : Calls Try.prog 5 #[v, l, .int .u8 t] w (Ret (.bool true) w) := by
  obtain ⟨va, vc, rfl⟩ := words_slice hv
  have hls : ∃ (b : Option Addr) (d : Nat), l = .slice b xs.length d := by
    obtain ⟨_, ⟨rfl, a, cap, rfl⟩ | ⟨_, lb, lo, cap, rfl, _⟩⟩ := hx
    · exact ⟨a, cap, rfl⟩
    · exact ⟨_, cap, rfl⟩
  by_cases hfar : 200 < zs.length ∨ 60 < xs.length
  · obtain ⟨b, d, rfl⟩ := hls
    exact parts_far va b zs.length vc xs.length d t w hfar
  · have hn : zs.length ≤ 200 := by omega
    have hm : xs.length ≤ 60 := by omega
    obtain ⟨k, hk⟩ := Int.eq_ofNat_of_zero_le (show 0 ≤ t % ((xs.length : Int) + 1) from Int.emod_nonneg _ (by omega))
    have hk2 : t % ((xs.length : Int) + 1) < (xs.length : Int) + 1 := Int.emod_lt_of_pos _ (by omega)
    have hk3 : k ≤ xs.length := by omega
    have T := two_parts zs xs k (by omega) hk3
    have l1 : (xs.take k).length ≤ 60 := by rw [List.length_take]; omega
    have l2 : (xs.drop k).length ≤ 60 := by rw [List.length_drop]; omega
    have l3 : (xs.take k).length + (xs.drop k).length = xs.length := by rw [List.length_take, List.length_drop]; omega
    clear hls hfar hk2
    by_cases e2 : (playR zs (xs.take k)).e = 0
    · have B2 := playR_bounds zs (xs.take k) l1 e2
      by_cases e3 : (playR (playR zs (xs.take k)).out (xs.drop k)).e = 0
      · have B3 := playR_bounds _ (xs.drop k) l2 e3
        obtain ⟨c1, c2, c3, c4, c5⟩ := T.both e2 e3
        have hg6 : 0 ≤ (playR zs (xs.take k)).r ∧ (playR zs (xs.take k)).r ≤ 100000 ∧ 0 ≤ (playR (playR zs (xs.take k)).out (xs.drop k)).r ∧ (playR (playR zs (xs.take k)).out (xs.drop k)).r ≤ 100000 ∧ 0 ≤ (playR zs (xs.take k)).c ∧ (playR zs (xs.take k)).c ≤ 100000 ∧ 0 ≤ (playR (playR zs (xs.take k)).out (xs.drop k)).c ∧ (playR (playR zs (xs.take k)).out (xs.drop k)).c ≤ 100000 := by omega
        obtain ⟨hwf, ⟨h0, a, cap, rfl⟩ | ⟨hpos, lb, lo, cap, rfl, hcap, hlb, hxx⟩⟩ := hx
        · rcases hf with h | ⟨a', n', c', h⟩
          · simp at h
            obtain ⟨rfl, rfl⟩ := h
            exact parts_n3 zs xs va vc k t _ _ _ w hv h0 hn hm t0 t1 hk3 hk rfl rfl rfl e2 e3 c1 c2 c3 c4 c5 hg6 (by omega) (by omega)
          · simp at h
            obtain ⟨rfl, rfl, rfl⟩ := h
            exact parts_z3 zs xs va vc a' cap k t _ _ _ w hv h0 hn hm t0 t1 hk3 hk rfl rfl rfl e2 e3 c1 c2 c3 c4 c5 hg6 (by omega) (by omega)
        · exact parts_m3 zs xs va vc lb lo cap k t _ _ _ w hv hwf hcap hlb hxx hpos hn hm t0 t1 hk3 hk rfl rfl rfl e2 e3 c1 c2 c3 c4 c5 hg6 (by omega) (by omega)
      · obtain ⟨c1, c2⟩ := T.second e2 e3
        have hi := playR_i (playR zs (xs.take k)).out (xs.drop k) l2
        obtain ⟨hwf, ⟨h0, a, cap, rfl⟩ | ⟨hpos, lb, lo, cap, rfl, hcap, hlb, hxx⟩⟩ := hx
        · rcases hf with h | ⟨a', n', c', h⟩
          · simp at h
            obtain ⟨rfl, rfl⟩ := h
            exact parts_n2 zs xs va vc k t _ _ _ w hv h0 hn hm t0 t1 hk3 hk rfl rfl rfl e2 e3 c1 c2 hi
          · simp at h
            obtain ⟨rfl, rfl, rfl⟩ := h
            exact parts_z2 zs xs va vc a' cap k t _ _ _ w hv h0 hn hm t0 t1 hk3 hk rfl rfl rfl e2 e3 c1 c2 hi
        · exact parts_m2 zs xs va vc lb lo cap k t _ _ _ w hv hwf hcap hlb hxx hpos hn hm t0 t1 hk3 hk rfl rfl rfl e2 e3 c1 c2 hi
    · obtain ⟨c1, c2⟩ := T.first e2
      obtain ⟨hwf, ⟨h0, a, cap, rfl⟩ | ⟨hpos, lb, lo, cap, rfl, hcap, hlb, hxx⟩⟩ := hx
      · rcases hf with h | ⟨a', n', c', h⟩
        · simp at h
          obtain ⟨rfl, rfl⟩ := h
          exact parts_n1 zs xs va vc k t _ _ w hv h0 hn hm t0 t1 hk3 hk rfl rfl e2 c1 c2
        · simp at h
          obtain ⟨rfl, rfl, rfl⟩ := h
          exact parts_z1 zs xs va vc a' cap k t _ _ w hv h0 hn hm t0 t1 hk3 hk rfl rfl e2 c1 c2
      · exact parts_m1 zs xs va vc lb lo cap k t _ _ w hv hwf hcap hlb hxx hpos hn hm t0 t1 hk3 hk rfl rfl e2 c1 c2

set_option maxRecDepth 100000 in
theorem arenaParts_lifted (os : Os) (started : os.Started) (H : Type) (enc : TypeId × Value → H) :
    ReturnsInHanded {} Try.checked os 5 .any (Rows.arenaPartsSpec.pre6 enc Try.prog Try.f5 Rows.arenaPartsRow.domain false) (Rows.arenaPartsSpec.post enc Try.prog Try.f5 false true false false) := by
  refine returnsInHanded_of_change (C := Try.checked) own started (by kernel_rfl) Try.func5
    (ChangeSpec.witness6 (enc := enc) (C := Try.checked) false ⟨#[], #[.slice none 0 0, .slice none 0 0, .int .u8 0], []⟩ 8 (by kernel_rfl) (by kernel_rfl) (by kernel_rfl) (by kernel_rfl)) ?_
  intro W base args ds gs before hval0 hW hcnd _
  have hval : ∀ (j : Nat) t v, Try.f5.params[j]? = some t → args[j]? = some v → Value.okWide Try.prog W .any base t v := hval0
  have hW' := hW
  obtain ⟨p, q, hA0, hV, rfl, hfz, hnd⟩ := hW
  have hA : DataW.TrodAll enc Try.prog W 0 (fun _ => true) true Try.f5.params.toList args.toList ds p := hA0
  obtain ⟨rfl, rfl⟩ := trodVars_none hV
  obtain ⟨v0, v1, v2, d0, d1, d2, p0, p1, p2, rfl, rfl, t0, t1, t2, k0, k1, k2⟩ := law3 Try.params5 hA hval
  obtain ⟨zs, hz⟩ := open_words k0 t0
  obtain ⟨xs, hx⟩ := open_ops k1 t1
  have hfn := fine_ops k1 t1
  obtain ⟨t, rfl, b1, b2⟩ := open_u8 k2 t2
  refine (parts_walk zs xs _ _ t W hz hx hfn b1 b2).mono fun e W' ⟨he, hb⟩ => ?_
  subst he
  exact ⟨_, rfl, law_post laidOut (by kernel_rfl) rfl (by kernel_rfl) Try.underlying4 hW' rfl rfl rfl hb⟩

theorem arenaParts_over : Rows.arenaPartsRow.holds Try.pinned (OpenSpec.ofChange Rows.arenaPartsSpec) :=
  OpenClaim.holds_of_wide 5 Try.f5 rfl rfl rfl rfl rfl rfl rfl ⟨rfl, rfl, rfl, rfl, rfl⟩ rfl rfl rfl rfl rfl (by kernel_rfl) Try.func5 (by kernel_rfl)
    (of_decide_eq_true (by kernel_rfl)) (by unfold Func.isWrapper; first | (rw [if_pos (by decide +kernel)]; kernel_rfl) | (rw [if_neg (by decide +kernel)]; exact ⟨rfl, rfl⟩))
    (fun os started H enc _ => arenaParts_lifted os started H enc)

theorem arenaParts_holds : Rows.ArenaPartsSaid := arenaParts_over
#print axioms arenaParts_holds
end Go.Proofs.Ytmjjbnjedafdaaa
