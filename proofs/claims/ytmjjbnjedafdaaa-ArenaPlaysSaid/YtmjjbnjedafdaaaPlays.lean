/-
  Every run of ArenaPlays answers true, whatever it is called with, and leaves what was there as it was: its walk, out of the contracts of the program and of the reference.
-/
import Derived.Test.YtmjjbnjedafdaaaRplay
import Derived.Test.YtmjjbnjedafdaaaMoves
namespace Go.Proofs.Ytmjjbnjedafdaaa
open Go.ChangeShapes Go.WideShapes Go.ChangeAt Go.RowKit Go.Joins Go.Deep

set_option maxHeartbeats 4000000 in
theorem plays_far (a b : Option Addr) (n c m d : Nat) (w : World) (h : (200 < n ∧ n ≤ 1601) ∨ 1610 < n ∨ (60 < m ∧ m ≤ 500) ∨ 505 < m) : Calls Try.prog 3 #[.slice a n c, .slice b m d] w (Ret (.bool true) w) := by
  have h' : (200 < n ∧ n ≤ 1601) ∨ (200 < n ∧ ¬ n ≤ 1601 ∧ 1610 < n) ∨ (¬ 200 < n ∧ ¬ 1610 < n ∧ 60 < m ∧ m ≤ 500) ∨ (200 < n ∧ ¬ n ≤ 1601 ∧ ¬ 1610 < n ∧ 60 < m ∧ m ≤ 500) ∨ (¬ 200 < n ∧ ¬ 1610 < n ∧ 60 < m ∧ ¬ m ≤ 500 ∧ 505 < m) ∨ (200 < n ∧ ¬ n ≤ 1601 ∧ ¬ 1610 < n ∧ 60 < m ∧ ¬ m ≤ 500 ∧ 505 < m) := by omega
  clear h
  rcases h' with ⟨h1, h2⟩ | ⟨h1, h2, h3⟩ | ⟨h1, h2, h3, h4⟩ | ⟨h1, h2, h3, h4, h5⟩ | ⟨h1, h2, h3, h4, h5⟩ | ⟨h1, h2, h3, h4, h5, h6⟩
  all_goals
    go_enter Try.func3, Try.ntmps3
    go_wp2_with (first | (go_at_call 10; refine (awake_any _).mono ?_; rintro e w1 ⟨rfl, hb1⟩))
    go_ret
    exact ⟨rfl, hb1⟩
theorem rplay_val {zs : List Int} {xs : List AOp} {R : PR} {v l : Value} (w : World) (hv : Words w v zs) (hx : OpsAt w l xs) (h : playR zs xs = R) : Calls Try.prog 12 #[v, l] w (PlayPost R w) := by
  rw [← h]; exact rplay_pub zs xs v l w hv hx
theorem plays_got (xs : List AOp) : ∀ (out got : List Int) (r c : Int) (i : Nat), (plays out got r c i xs).got.length ≤ got.length + xs.length := by
  induction xs with
  | nil => intro out got r c i; simp [plays]
  | cons x l ih =>
    intro out got r c i
    unfold plays
    by_cases he : opE out.length x = 0
    · rw [if_pos he]
      have h1 := ih (opOut out x) (got ++ opGot out x) (r + opR x) (c + opW x) (i + 1)
      have h3 := opGot_le out x
      simp only [List.length_append, List.length_cons] at h1 ⊢
      omega
    · rw [if_neg he]; simp
theorem playR_got (zs : List Int) (xs : List AOp) : (playR zs xs).got.length ≤ xs.length := by
  unfold playR
  split
  · simp
  · split
    · simp
    · have := plays_got xs zs [] 0 0 0
      simpa using this

set_option maxRecDepth 100000 in
set_option maxHeartbeats 8000000 in
theorem plays_near (zs : List Int) (xs : List AOp) (a b : Option Addr) (c d : Nat) (R : PR) (w : World) (hv : Words w (.slice a zs.length c) zs) (hx : OpsAt w (.slice b xs.length d) xs) (h : ¬ ((200 < zs.length ∧ zs.length ≤ 1601) ∨ 1610 < zs.length ∨ (60 < xs.length ∧ xs.length ≤ 500) ∨ 505 < xs.length)) (hR : playR zs xs = R) (ho : R.out.length ≤ 1000000) (hg : R.got.length ≤ 1000000) : Calls Try.prog 3 #[.slice a zs.length c, .slice b xs.length d] w (Ret (.bool true) w) := by
  have HV := Lib.hid hv
  have HX := Lib.hid hx
  have HR := Lib.hid hR
  have hq := eq_cnt
  have h' : (¬ 200 < zs.length ∧ ¬ 1610 < zs.length ∧ ¬ 60 < xs.length ∧ ¬ 505 < xs.length) ∨ (200 < zs.length ∧ ¬ zs.length ≤ 1601 ∧ ¬ 1610 < zs.length ∧ ¬ 60 < xs.length ∧ ¬ 505 < xs.length) ∨ (¬ 200 < zs.length ∧ ¬ 1610 < zs.length ∧ 60 < xs.length ∧ ¬ xs.length ≤ 500 ∧ ¬ 505 < xs.length) ∨ (200 < zs.length ∧ ¬ zs.length ≤ 1601 ∧ ¬ 1610 < zs.length ∧ 60 < xs.length ∧ ¬ xs.length ≤ 500 ∧ ¬ 505 < xs.length) := by omega
  obtain ⟨o1, g1, r1, c1, i1, e1⟩ := R
  simp only at ho hg
  clear hv hx h hR
  rcases h' with ⟨h1, h2, h3, h4⟩ | ⟨h1, h2, h3, h4, h5⟩ | ⟨h1, h2, h3, h4, h5⟩ | ⟨h1, h2, h3, h4, h5, h6⟩
  all_goals
    go_enter Try.func3, Try.ntmps3
    go_wp2_with fail
    refine (play_val _ HV.out HX.out HR.out).mono ?_
    rintro e q1 ⟨vv1, vg1, rfl, ov, og, hb⟩
    simp only
    have hy : Below w.heap.size w (q1.alloc (.cells #[.int .i64 r1, .int .i64 c1] 26)) := below_new hb (Nat.le_refl _) _
    have VV1 := Lib.hid (words_below (new_below q1 (.cells #[.int .i64 r1, .int .i64 c1] 26)) (own_words ov))
    have VG1 := Lib.hid (words_below (new_below q1 (.cells #[.int .i64 r1, .int .i64 c1] 26)) (own_words og))
    have C1 := Lib.hid (cnt_new q1 r1 c1)
    have BB1 := Lib.hid hy
    clear ov og hb hy
    go_wp2_with fail
    generalize q1.heap.size = b1' at *
    generalize q1.alloc (.cells #[.int .i64 r1, .int .i64 c1] 26) = w1 at *
    refine (rplay_val _ (words_below BB1.out HV.out) (opsAt_below BB1.out HX.out) HR.out).mono ?_
    rintro e q2 ⟨vv2, vg2, rfl, ov, og, hb⟩
    simp only
    have hn2 := new_below q2 (.cells #[.int .i64 r1, .int .i64 c1] 26)
    have hb12 : Below w1.heap.size w1 (q2.alloc (.cells #[.int .i64 r1, .int .i64 c1] 26)) := below_new hb (Nat.le_refl _) _
    have VV2 := Lib.hid (words_below hn2 (own_words ov))
    have VG2 := Lib.hid (words_below hn2 (own_words og))
    have VV12 := Lib.hid (words_below hb12 VV1.out)
    have VG12 := Lib.hid (words_below hb12 VG1.out)
    have C2 := Lib.hid (cnt_new q2 r1 c1)
    have C12 := Lib.hid (cnt_below hb12 C1.out)
    have BB2 : Hid (Below w.heap.size w (q2.alloc (.cells #[.int .i64 r1, .int .i64 c1] 26))) := below_call hb12 BB1.out (Nat.le_refl _)
    clear ov og hb hn2 hb12 VV1 VG1 C1
    go_wp2_with fail
    generalize q2.heap.size = b2' at *
    generalize q2.alloc (.cells #[.int .i64 r1, .int .i64 c1] 26) = w2 at *
    refine (same_yes _ _ _ _ VV12.out VV2.out ho).mono ?_
    rintro e w3 ⟨rfl, hb⟩
    have VG3 := Lib.hid (words_below hb VG2.out)
    have VG13 := Lib.hid (words_below hb VG12.out)
    have C3 := Lib.hid (cnt_below hb C2.out)
    have C13 := Lib.hid (cnt_below hb C12.out)
    have BB3 := Lib.hid (below_call hb BB2.out (Nat.le_refl _))
    clear hb VV12 VV2 VG2 VG12 C2 C12 BB2
    go_wp2_with fail
    refine (same_yes _ _ _ _ VG13.out VG3.out hg).mono ?_
    rintro e w4 ⟨rfl, hb⟩
    obtain ⟨u20, u21, u2z⟩ := cnt_below hb C3.out
    obtain ⟨u10, u11, u1z⟩ := cnt_below hb C13.out
    have BB4 := Lib.hid (below_call hb BB3.out (Nat.le_refl _))
    clear hb VG13 VG3 C3 C13 BB3
    go_wp2_with fail
    refine (awake_any _).mono ?_
    rintro e wz ⟨rfl, hb⟩
    have BZ := Lib.hid (below_call hb BB4.out (Nat.le_refl _))
    clear hb
    go_wp2
    go_ret
    exact ⟨rfl, BZ.out⟩

theorem plays_walk (zs : List Int) (xs : List AOp) (v l : Value) (w : World) (hv : Words w v zs) (hx : OpsAt w l xs) : Calls Try.prog 3 #[v, l] w (Ret (.bool true) w) := by
  obtain ⟨a, c, rfl⟩ := words_slice hv
  have hla : ∃ (b : Option Addr) (d : Nat), l = .slice b xs.length d := by
    obtain ⟨_, ⟨rfl, b, d, rfl⟩ | ⟨_, lb, lo, d, rfl, _⟩⟩ := hx
    · exact ⟨b, d, rfl⟩
    · exact ⟨_, d, rfl⟩
  obtain ⟨b, d, rfl⟩ := hla
  by_cases h : (200 < zs.length ∧ zs.length ≤ 1601) ∨ 1610 < zs.length ∨ (60 < xs.length ∧ xs.length ≤ 500) ∨ 505 < xs.length
  · exact plays_far _ _ _ _ _ _ w h
  · exact plays_near zs xs a b c d _ w hv hx h rfl (Nat.le_trans (playR_out_le zs xs) (by omega)) (Nat.le_trans (playR_got zs xs) (by omega))

set_option maxRecDepth 100000 in
theorem arenaPlays_lifted (os : Os) (started : os.Started) (H : Type) (enc : TypeId × Value → H) :
    ReturnsInHanded {} Try.checked os 3 .any (Rows.arenaPlaysSpec.pre6 enc Try.prog Try.f3 Rows.arenaPlaysRow.domain false) (Rows.arenaPlaysSpec.post enc Try.prog Try.f3 false true false false) := by
  refine returnsInHanded_of_change (C := Try.checked) own started (by kernel_rfl) Try.func3
    (ChangeSpec.witness6 (enc := enc) (C := Try.checked) false ⟨#[], #[.slice none 0 0, .slice none 0 0], []⟩ 8 (by kernel_rfl) (by kernel_rfl) (by kernel_rfl) (by kernel_rfl)) ?_
  intro W base args ds gs before hval0 hW hcnd _
  have hval : ∀ (j : Nat) t v, Try.f3.params[j]? = some t → args[j]? = some v → Value.okWide Try.prog W .any base t v := hval0
  have hW' := hW
  obtain ⟨p, q, hA0, hV, rfl, hfz, hnd⟩ := hW
  have hA : DataW.TrodAll enc Try.prog W 0 (fun _ => true) true Try.f3.params.toList args.toList ds p := hA0
  obtain ⟨rfl, rfl⟩ := trodVars_none hV
  obtain ⟨v0, v1, d0, d1, p0, p1, rfl, rfl, t0, t1, k0, k1⟩ := law2 Try.params3 hA hval
  obtain ⟨zs, hz⟩ := open_words k0 t0
  obtain ⟨xs, hx⟩ := open_ops k1 t1
  refine (plays_walk zs xs _ _ W hz hx).mono fun e W' ⟨he, hb⟩ => ?_
  subst he
  exact ⟨_, rfl, law_post laidOut (by kernel_rfl) rfl (by kernel_rfl) Try.underlying4 hW' rfl rfl rfl hb⟩

theorem arenaPlays_over : Rows.arenaPlaysRow.holds Try.pinned (OpenSpec.ofChange Rows.arenaPlaysSpec) :=
  OpenClaim.holds_of_wide 3 Try.f3 rfl rfl rfl rfl rfl rfl rfl ⟨rfl, rfl, rfl, rfl, rfl⟩ rfl rfl rfl rfl rfl (by kernel_rfl) Try.func3 (by kernel_rfl)
    (of_decide_eq_true (by kernel_rfl)) (by unfold Func.isWrapper; first | (rw [if_pos (by decide +kernel)]; kernel_rfl) | (rw [if_neg (by decide +kernel)]; exact ⟨rfl, rfl⟩))
    (fun os started H enc _ => arenaPlays_lifted os started H enc)

theorem arenaPlays_holds : Rows.ArenaPlaysSaid := arenaPlays_over
#print axioms arenaPlays_holds
end Go.Proofs.Ytmjjbnjedafdaaa
