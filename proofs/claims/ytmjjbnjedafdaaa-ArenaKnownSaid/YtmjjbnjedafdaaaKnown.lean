/-
  Every run of ArenaKnown answers true, whatever it is called with, and leaves what was there as it was: its walk, out of the contracts of the program.
-/
import Derived.Test.YtmjjbnjedafdaaaZero
namespace Go.Proofs.Ytmjjbnjedafdaaa
open Go.ChangeShapes Go.WideShapes Go.ChangeAt Go.RowKit Go.Joins Go.Deep

theorem get_ex (a x e : Int) (v : Value) (w : World) (hv : Words w v [0, 1, 2, 3, 4, 5]) (h : getR [0, 1, 2, 3, 4, 5] a = (x, e)) : Calls Try.prog 25 #[v, .int .i64 a] w fun e' w' => e' = .returned (.tuple #[.int .u64 x, .int .i64 e]) ∧ w = w' := by
  have := get_pub [0, 1, 2, 3, 4, 5] a v w hv; rw [h] at this; exact this
theorem zero_ex (a b : Int) (x : Bool) (e : Int) (v : Value) (w : World) (hv : Words w v [0, 1, 2, 3, 4, 5]) (h : zeroR [0, 1, 2, 3, 4, 5] a b = (x, e)) : Calls Try.prog 21 #[v, .int .i64 a, .int .i64 b] w fun e' w' => e' = .returned (.tuple #[.bool x, .int .i64 e]) ∧ w = w' := by
  have := zero_pub [0, 1, 2, 3, 4, 5] a b v w hv; rw [h] at this; exact this
theorem copy_ex2 (v : Value) (w : World) (hv : Words w v [0, 1, 2, 3, 4, 5]) : Calls Try.prog 16 #[v, .int .i64 2, .int .i64 1, .int .i64 3] w fun e w' => ∃ v', e = .returned (.tuple #[v', .int .i64 0]) ∧ Own w v' [0, 2, 3, 4, 4, 5] w' ∧ Below w.heap.size w w' := copy_pub [0, 1, 2, 3, 4, 5] 2 1 3 v w hv
theorem clear_ex2 (v : Value) (w : World) (hv : Words w v [0, 1, 2, 3, 4, 5]) : Calls Try.prog 17 #[v, .int .i64 6, .int .i64 0] w fun e w' => ∃ v', e = .returned (.tuple #[v', .int .i64 0]) ∧ Own w v' [0, 1, 2, 3, 4, 5] w' ∧ Below w.heap.size w w' := clear_pub [0, 1, 2, 3, 4, 5] 6 0 v w hv
theorem clear_ex3 (v : Value) (w : World) (hv : Words w v [0, 1, 2, 3, 4, 5]) : Calls Try.prog 17 #[v, .int .i64 5, .int .i64 2] w fun e w' => ∃ v', e = .returned (.tuple #[v', .int .i64 7]) ∧ Own w v' [] w' ∧ Below w.heap.size w w' := clear_pub [0, 1, 2, 3, 4, 5] 5 2 v w hv

set_option maxRecDepth 100000 in
set_option maxHeartbeats 2000000 in
theorem known_walk (w : World) : Calls Try.prog 8 #[] w (Ret (.bool true) w) := by
  go_enter Try.func8, Try.ntmps8
  go_wp2_with fail
  have B0 : Hid (Below w.heap.size w w) := Below.refl _ _
  refine (ex_any _).mono ?_
  rintro e w1 ⟨g1, rfl, hw, hb⟩
  have X1 := Lib.hid hw
  have B1 : Hid (Below w.heap.size w w1) := below_call hb B0.out (Nat.le_refl _)
  clear hw hb B0
  go_wp2_with fail
  refine (get_ex 5 5 0 _ _ X1.out rfl).mono ?_
  rintro e w' ⟨rfl, rfl⟩
  clear X1
  go_wp2_with fail
  refine (ex_any _).mono ?_
  rintro e w2 ⟨g2, rfl, hw, hb⟩
  have X2 := Lib.hid hw
  have B2 : Hid (Below w.heap.size w w2) := below_call hb B1.out (Nat.le_refl _)
  clear hw hb B1
  go_wp2_with fail
  refine (get_ex 0 0 7 _ _ X2.out rfl).mono ?_
  rintro e w' ⟨rfl, rfl⟩
  clear X2
  go_wp2_with fail
  refine (ex_any _).mono ?_
  rintro e w3 ⟨g3, rfl, hw, hb⟩
  have X3 := Lib.hid hw
  have B3 : Hid (Below w.heap.size w w3) := below_call hb B2.out (Nat.le_refl _)
  clear hw hb B2
  go_wp2_with fail
  refine (get_ex 6 0 7 _ _ X3.out rfl).mono ?_
  rintro e w' ⟨rfl, rfl⟩
  clear X3
  go_wp2_with fail
  refine (ex_any _).mono ?_
  rintro e w4 ⟨g4, rfl, hw, hb⟩
  have X4 := Lib.hid hw
  have B4 : Hid (Below w.heap.size w w4) := below_call hb B3.out (Nat.le_refl _)
  clear hw hb B3
  go_wp2_with fail
  refine (copy_ex2 _ _ X4.out).mono ?_
  rintro e w5 ⟨va5, rfl, oa, hb⟩
  have A5 := Lib.hid (own_words oa)
  have B5 : Hid (Below w.heap.size w w5) := below_call hb B4.out (Nat.le_refl _)
  clear oa hb B4 X4
  go_wp2_with fail
  refine (ex_any _).mono ?_
  rintro e w6 ⟨g6, rfl, hw, hb⟩
  have X6 := Lib.hid hw
  have A6 := Lib.hid (words_below hb A5.out)
  have B6 : Hid (Below w.heap.size w w6) := below_call hb B5.out (Nat.le_refl _)
  clear hw hb B5 A5
  go_wp2_with fail
  refine (clear_ex2 _ _ X6.out).mono ?_
  rintro e w7 ⟨va7, rfl, oa, hb⟩
  have A7 := Lib.hid (words_below hb A6.out)
  have C7 := Lib.hid (own_words oa)
  have B7 : Hid (Below w.heap.size w w7) := below_call hb B6.out (Nat.le_refl _)
  clear oa hb B6 X6 A6
  go_wp2_with fail
  refine (ex_any _).mono ?_
  rintro e w8 ⟨g8, rfl, hw, hb⟩
  have X8 := Lib.hid hw
  have A8 := Lib.hid (words_below hb A7.out)
  have C8 := Lib.hid (words_below hb C7.out)
  have B8 : Hid (Below w.heap.size w w8) := below_call hb B7.out (Nat.le_refl _)
  clear hw hb B7 A7 C7
  go_wp2_with fail
  refine (clear_ex3 _ _ X8.out).mono ?_
  rintro e w9 ⟨va9, rfl, oa, hb⟩
  have A9 := Lib.hid (words_below hb A8.out)
  have C9 := Lib.hid (words_below hb C8.out)
  have B9 : Hid (Below w.heap.size w w9) := below_call hb B8.out (Nat.le_refl _)
  clear oa hb B8 X8 A8 C8
  go_wp2_with fail
  refine (ex_any _).mono ?_
  rintro e w10 ⟨g10, rfl, hw, hb⟩
  have X10 := Lib.hid hw
  have A10 := Lib.hid (words_below hb A9.out)
  have C10 := Lib.hid (words_below hb C9.out)
  have B10 : Hid (Below w.heap.size w w10) := below_call hb B9.out (Nat.le_refl _)
  clear hw hb B9 A9 C9
  go_wp2_with fail
  refine (zero_ex 1 1 true 0 _ _ X10.out rfl).mono ?_
  rintro e w' ⟨rfl, rfl⟩
  clear X10
  go_wp2_with fail
  refine (ex_any _).mono ?_
  rintro e w11 ⟨g11, rfl, hw, hb⟩
  have X11 := Lib.hid hw
  have A11 := Lib.hid (words_below hb A10.out)
  have C11 := Lib.hid (words_below hb C10.out)
  have B11 : Hid (Below w.heap.size w w11) := below_call hb B10.out (Nat.le_refl _)
  clear hw hb B10 A10 C10
  go_wp2_with fail
  refine (zero_ex 1 3 false 0 _ _ X11.out rfl).mono ?_
  rintro e w' ⟨rfl, rfl⟩
  clear X11
  go_wp2_with fail
  refine (same_yes [0, 2, 3, 4, 4, 5] _ _ _ (words_below (new_below _ _) A11.out) (by exact words_new w11 [0, 2, 3, 4, 4, 5] 6 (by decide) rfl) (by decide)).mono ?_
  rintro e wa ⟨rfl, hb⟩
  have hx : Below w11.heap.size w11 wa := below_call hb (new_below _ _) (Nat.le_refl _)
  have CA := Lib.hid (words_below hx C11.out)
  have BA : Hid (Below w.heap.size w wa) := below_call hx B11.out (Nat.le_refl _)
  clear hb hx A11 C11 B11
  go_wp2_with fail
  refine (ex_any _).mono ?_
  rintro e wb ⟨gb, rfl, hw, hb⟩
  have XB := Lib.hid hw
  have CB := Lib.hid (words_below hb CA.out)
  have BB : Hid (Below w.heap.size w wb) := below_call hb BA.out (Nat.le_refl _)
  clear hw hb CA BA
  go_wp2_with fail
  refine (same_yes [0, 1, 2, 3, 4, 5] _ _ _ CB.out XB.out (by decide)).mono ?_
  rintro e wc ⟨rfl, hb⟩
  have BC : Hid (Below w.heap.size w wc) := below_call hb BB.out (Nat.le_refl _)
  clear hb CB XB BB
  go_wp2_with fail
  refine (awake_any _).mono ?_
  rintro e wd ⟨rfl, hb⟩
  have BD : Hid (Below w.heap.size w wd) := below_call hb BC.out (Nat.le_refl _)
  clear hb
  go_wp2
  go_ret
  exact ⟨rfl, BD.out⟩

set_option maxRecDepth 100000 in
theorem arenaKnown_lifted (os : Os) (started : os.Started) (H : Type) (enc : TypeId × Value → H) :
    ReturnsInHanded {} Try.checked os 8 .any (Rows.arenaKnownSpec.pre6 enc Try.prog Try.f8 Rows.arenaKnownRow.domain false) (Rows.arenaKnownSpec.post enc Try.prog Try.f8 false true false false) := by
  refine returnsInHanded_of_change (C := Try.checked) own started (by kernel_rfl) Try.func8
    (ChangeSpec.witness6 (enc := enc) (C := Try.checked) false ⟨#[], #[], []⟩ 8 (by kernel_rfl) (by kernel_rfl) (by kernel_rfl) (by kernel_rfl)) ?_
  intro W base args ds gs before hval0 hW hcnd _
  have hW' := hW
  obtain ⟨p, q, hA0, hV, rfl, hfz, hnd⟩ := hW
  have hA : DataW.TrodAll enc Try.prog W 0 (fun _ => true) true Try.f8.params.toList args.toList ds p := hA0
  obtain ⟨rfl, rfl⟩ := trodVars_none hV
  rw [Try.params8] at hA
  obtain ⟨rfl, rfl, rfl⟩ := trodAll_none hA
  refine (known_walk W).mono fun e W' ⟨he, hb⟩ => ?_
  subst he
  exact ⟨_, rfl, law_post laidOut (by kernel_rfl) rfl (by kernel_rfl) Try.underlying4 hW' rfl rfl rfl hb⟩

theorem arenaKnown_over : Rows.arenaKnownRow.holds Try.pinned (OpenSpec.ofChange Rows.arenaKnownSpec) :=
  OpenClaim.holds_of_wide 8 Try.f8 rfl rfl rfl rfl rfl rfl rfl ⟨rfl, rfl, rfl, rfl, rfl⟩ rfl rfl rfl rfl rfl (by kernel_rfl) Try.func8 (by kernel_rfl)
    (of_decide_eq_true (by kernel_rfl)) (by unfold Func.isWrapper; first | (rw [if_pos (by decide +kernel)]; kernel_rfl) | (rw [if_neg (by decide +kernel)]; exact ⟨rfl, rfl⟩))
    (fun os started H enc _ => arenaKnown_lifted os started H enc)

theorem arenaKnown_holds : Rows.ArenaKnownSaid := arenaKnown_over
#print axioms arenaKnown_holds
end Go.Proofs.Ytmjjbnjedafdaaa
