/-
  Walk of the laws' own test 'awake'.
-/
import Derived.Test.YtmjjbnjedafdaaaDiffer
namespace Go.Proofs.Ytmjjbnjedafdaaa
open Go.RowKit

def ex6 : Obj := .cells #[.int .u64 0, .int .u64 1, .int .u64 2, .int .u64 3, .int .u64 4, .int .u64 5] 32
theorem example_any (w : World) : Calls Try.prog 26 #[] w fun e w' => e = .returned (.slice (some ⟨w.heap.size, 0, none⟩) 6 6) ∧ w.alloc (.cells #[.int .u64 0, .int .u64 1, .int .u64 2, .int .u64 3, .int .u64 4, .int .u64 5] 32) = w' := by
  go_enter Try.func26, Try.ntmps26
  go_wp2
  go_ret
  exact ⟨rfl, rfl⟩
theorem words_new (w : World) (l : List Int) (n : Nat) (h0 : 0 < l.length) (hn : n = l.length) : Words (w.alloc (.cells (us l).toArray 32)) (.slice (some ⟨w.heap.size, 0, none⟩) n n) l := by
  subst hn
  refine .inr ⟨h0, w.heap.size, 0, l.length, rfl, Nat.le_refl _, by simp, fun i hi => ?_⟩
  rw [World.cell?_alloc_at (hn := rfl), Nat.zero_add]
  simp [us, hi, List.getD]
theorem nums_new (w : World) (l : List Int) (n : Nat) (h0 : 0 < l.length) (hn : n = l.length) : Nums (w.alloc (.cells (is l).toArray 3)) (.slice (some ⟨w.heap.size, 0, none⟩) n n) l := by
  subst hn
  refine .inr ⟨h0, w.heap.size, 0, l.length, rfl, Nat.le_refl _, by simp, fun i hi => ?_⟩
  rw [World.cell?_alloc_at (hn := rfl), Nat.zero_add]
  simp [is, hi, List.getD]
theorem ex_words (w : World) : Words (w.alloc (.cells #[.int .u64 0, .int .u64 1, .int .u64 2, .int .u64 3, .int .u64 4, .int .u64 5] 32)) (.slice (some ⟨w.heap.size, 0, none⟩) 6 6) [0, 1, 2, 3, 4, 5] := words_new w [0, 1, 2, 3, 4, 5] 6 (by decide) rfl

def scr : List AOp := [⟨2, 1, 0, 0, 9⟩, ⟨3, 1, 4, 2, 0⟩, ⟨1, 4, 0, 0, 0⟩]
theorem script_any (w : World) : Calls Try.prog 33 #[] w fun e w' => e = .returned (.slice (some ⟨w.heap.size, 0, none⟩) 3 3) ∧ w.alloc (.cells #[.int .i64 2, .int .i64 1, .int .i64 0, .int .i64 0, .int .u64 9, .int .i64 3, .int .i64 1, .int .i64 4, .int .i64 2, .int .u64 0, .int .i64 1, .int .i64 4, .int .i64 0, .int .i64 0, .int .u64 0] 35) = w' := by
  go_enter Try.func33, Try.ntmps33
  go_wp2
  go_ret
  exact ⟨rfl, rfl⟩
theorem scr_ops (w : World) : OpsAt (w.alloc (.cells #[.int .i64 2, .int .i64 1, .int .i64 0, .int .i64 0, .int .u64 9, .int .i64 3, .int .i64 1, .int .i64 4, .int .i64 2, .int .u64 0, .int .i64 1, .int .i64 4, .int .i64 0, .int .i64 0, .int .u64 0] 35)) (.slice (some ⟨w.heap.size, 0, none⟩) 3 3) scr := by
  refine ⟨?_, .inr ⟨by decide, w.heap.size, 0, 3, rfl, by decide, by simp, fun i x hi => ?_⟩⟩
  · intro x hx
    simp [scr] at hx
    rcases hx with rfl | rfl | rfl <;> decide
  · have h3 : i < 3 := (List.getElem?_eq_some_iff.1 hi).1
    match i, h3 with
    | 0, _ => simp [scr] at hi; subst hi; exact ⟨by simp, by simp, by simp, by simp, by simp⟩
    | 1, _ => simp [scr] at hi; subst hi; exact ⟨by simp, by simp, by simp, by simp, by simp⟩
    | 2, _ => simp [scr] at hi; subst hi; exact ⟨by simp, by simp, by simp, by simp, by simp⟩

theorem copy_ex (v : Value) (w : World) (hv : Words w v [0, 1, 2, 3, 4, 5]) : Calls Try.prog 16 #[v, .int .i64 1, .int .i64 2, .int .i64 3] w fun e w' => ∃ v', e = .returned (.tuple #[v', .int .i64 0]) ∧ Own w v' [0, 1, 1, 2, 3, 5] w' ∧ Below w.heap.size w w' := copy_pub [0, 1, 2, 3, 4, 5] 1 2 3 v w hv
theorem clear_ex (v : Value) (w : World) (hv : Words w v [0, 1, 2, 3, 4, 5]) : Calls Try.prog 17 #[v, .int .i64 4, .int .i64 2] w fun e w' => ∃ v', e = .returned (.tuple #[v', .int .i64 0]) ∧ Own w v' [0, 1, 2, 3, 0, 0] w' ∧ Below w.heap.size w w' := clear_pub [0, 1, 2, 3, 4, 5] 4 2 v w hv
theorem play_ex (v l : Value) (w : World) (hv : Words w v [0, 1, 2, 3, 4, 5]) (hl : OpsAt w l scr) : Calls Try.prog 11 #[v, l] w fun e w' => ∃ v' gv : Value, e = .returned (.tuple #[v', gv, .agg #[.int .i64 3, .int .i64 3], .int .i64 0, .int .i64 0]) ∧ Own w v' [0, 9, 2, 3, 9, 2] w' ∧ Own w gv [9] w' ∧ Below w.heap.size w w' := play_pub [0, 1, 2, 3, 4, 5] scr v l w hv hl
theorem differ_ex (v u : Value) (w : World) (hv : Words w v [0, 1, 2, 3, 4, 5]) (hu : Words w u [0, 1, 1, 2, 3, 5]) : Calls Try.prog 18 #[v, u] w fun e w' => ∃ v', e = .returned (.tuple #[v', .int .i64 0]) ∧ OwnI w v' [2, 3, 4] w' ∧ Below w.heap.size w w' := differ_any [0, 1, 2, 3, 4, 5] [0, 1, 1, 2, 3, 5] v u w hv hu
theorem same_yes (l : List Int) (v u : Value) (w : World) (hv : Words w v l) (hu : Words w u l) (hm : l.length ≤ 1000000) : Calls Try.prog 13 #[v, u] w (Ret (.bool true) w) := by
  have := same_any l l v u w hv hu hm; rw [decide_eq_true rfl] at this; exact this
theorem ints_yes (l : List Int) (v u : Value) (w : World) (hv : Nums w v l) (hu : Nums w u l) (hm : l.length ≤ 1000000) : Calls Try.prog 24 #[v, u] w (Ret (.bool true) w) := by
  have := ints_any l l v u w hv hu hm; rw [decide_eq_true rfl] at this; exact this
theorem nums_below {w w1 : World} {v : Value} {zs : List Int} (hb : Below w.heap.size w w1) (h : Nums w v zs) : Nums w1 v zs := by
  rcases h with h | ⟨h0, zb, off, cap, e, h1, h2, h3⟩
  · exact .inl h
  · exact .inr ⟨h0, zb, off, cap, e, h1, Nat.lt_of_lt_of_le h2 hb.size, fun i hi => (hb.cell (p := ⟨zb, off + i, none⟩) h2).trans (h3 i hi)⟩
theorem new_below (w : World) (o : Obj) : Below w.heap.size w (w.alloc o) := below_new (Below.refl _ _) (Nat.le_refl _) o

theorem ex_any (w : World) : Calls Try.prog 26 #[] w fun e w' => ∃ g : Nat, e = .returned (.slice (some ⟨g, 0, none⟩) 6 6) ∧ Words w' (.slice (some ⟨g, 0, none⟩) 6 6) [0, 1, 2, 3, 4, 5] ∧ Below w.heap.size w w' :=
  (example_any w).mono fun _ _ ⟨h1, h2⟩ => ⟨w.heap.size, h1, by rw [← h2]; exact ex_words w, by rw [← h2]; exact new_below _ _⟩
theorem scr_any (w : World) : Calls Try.prog 33 #[] w fun e w' => ∃ g : Nat, e = .returned (.slice (some ⟨g, 0, none⟩) 3 3) ∧ OpsAt w' (.slice (some ⟨g, 0, none⟩) 3 3) scr ∧ Below w.heap.size w w' :=
  (script_any w).mono fun _ _ ⟨h1, h2⟩ => ⟨w.heap.size, h1, by rw [← h2]; exact scr_ops w, by rw [← h2]; exact new_below _ _⟩

set_option maxRecDepth 100000 in
set_option maxHeartbeats 1000000 in
theorem awake_any (w : World) : Calls Try.prog 10 #[] w (Ret (.bool true) w) := by
  have hse : ∀ w : World, (binOp .eql 26 (.agg #[.int .i64 3, .int .i64 3]) (.agg #[.int .i64 3, .int .i64 3])).run Try.prog w = .ok (.bool true) w := fun _ => by kernel_rfl
  go_enter Try.func10, Try.ntmps10
  go_wp2_with fail
  refine (ex_any _).mono ?_
  rintro e w1 ⟨g1, rfl, hw1, hb1⟩
  have W1 := Lib.hid hw1
  have B1 := Lib.hid hb1
  clear hw1 hb1
  go_wp2_with fail
  refine (copy_ex _ _ W1.out).mono ?_
  rintro e w2 ⟨va, rfl, oa, hb⟩
  have A2 := Lib.hid (own_words oa)
  have B2 : Hid (Below w.heap.size w w2) := below_call hb B1.out (Nat.le_refl _)
  clear oa hb W1 B1
  go_wp2_with fail
  refine (ex_any _).mono ?_
  rintro e w3 ⟨g3, rfl, hw, hb⟩
  have W3 := Lib.hid hw
  have A3 := Lib.hid (words_below hb A2.out)
  have B3 : Hid (Below w.heap.size w w3) := below_call hb B2.out (Nat.le_refl _)
  clear hw hb A2 B2
  go_wp2_with fail
  refine (clear_ex _ _ W3.out).mono ?_
  rintro e w4 ⟨vb, rfl, ob, hb⟩
  have A4 := Lib.hid (words_below hb A3.out)
  have C4 := Lib.hid (own_words ob)
  have B4 : Hid (Below w.heap.size w w4) := below_call hb B3.out (Nat.le_refl _)
  clear ob hb A3 B3 W3
  go_wp2_with fail
  refine (ex_any _).mono ?_
  rintro e w5 ⟨g5, rfl, hw, hb⟩
  have W5 := Lib.hid hw
  have A5 := Lib.hid (words_below hb A4.out)
  have C5 := Lib.hid (words_below hb C4.out)
  have B5 : Hid (Below w.heap.size w w5) := below_call hb B4.out (Nat.le_refl _)
  clear hw hb A4 C4 B4
  go_wp2_with fail
  refine (scr_any _).mono ?_
  rintro e w6 ⟨g6, rfl, hw, hb⟩
  have S6 := Lib.hid hw
  have W6 := Lib.hid (words_below hb W5.out)
  have A6 := Lib.hid (words_below hb A5.out)
  have C6 := Lib.hid (words_below hb C5.out)
  have B6 : Hid (Below w.heap.size w w6) := below_call hb B5.out (Nat.le_refl _)
  clear hw hb W5 A5 C5 B5
  go_wp2_with fail
  refine (play_ex _ _ _ W6.out S6.out).mono ?_
  rintro e w7 ⟨vv, vg, rfl, ov, og, hb⟩
  have A7 := Lib.hid (words_below hb A6.out)
  have C7 := Lib.hid (words_below hb C6.out)
  have V7 := Lib.hid (own_words ov)
  have G7 := Lib.hid (own_words og)
  have B7 : Hid (Below w.heap.size w w7) := below_call hb B6.out (Nat.le_refl _)
  clear ov og hb W6 S6 A6 C6 B6
  go_wp2_with fail
  have hn := new_below w7 (.cells #[.int .i64 3, .int .i64 3] 26)
  have A8 := Lib.hid (words_below hn A7.out)
  have C8 := Lib.hid (words_below hn C7.out)
  have V8 := Lib.hid (words_below hn V7.out)
  have G8 := Lib.hid (words_below hn G7.out)
  have B8 : Hid (Below w.heap.size w (w7.alloc (.cells #[.int .i64 3, .int .i64 3] 26))) := below_call hn B7.out (Nat.le_refl _)
  have k0 : (w7.alloc (.cells #[.int .i64 3, .int .i64 3] 26)).cell? ⟨w7.heap.size, 0, none⟩ = some (.int .i64 3) := by simp
  have k1 : (w7.alloc (.cells #[.int .i64 3, .int .i64 3] 26)).cell? ⟨w7.heap.size, 1, none⟩ = some (.int .i64 3) := by simp
  have kz : w7.heap.size < (w7.alloc (.cells #[.int .i64 3, .int .i64 3] 26)).heap.size := by simp
  clear hn A7 C7 V7 G7 B7
  generalize w7.heap.size = cb at *
  generalize w7.alloc (.cells #[.int .i64 3, .int .i64 3] 26) = w8 at *
  refine (ex_any _).mono ?_
  rintro e w9 ⟨g9, rfl, hw, hb⟩
  have W9 := Lib.hid hw
  have A9 := Lib.hid (words_below hb A8.out)
  have C9 := Lib.hid (words_below hb C8.out)
  have V9 := Lib.hid (words_below hb V8.out)
  have G9 := Lib.hid (words_below hb G8.out)
  have B9 : Hid (Below w.heap.size w w9) := below_call hb B8.out (Nat.le_refl _)
  have l0 := (hb.cell (p := ⟨cb, 0, none⟩) kz).trans k0
  have l1 := (hb.cell (p := ⟨cb, 1, none⟩) kz).trans k1
  have lz := Nat.lt_of_lt_of_le kz hb.size
  clear hw hb A8 C8 V8 G8 B8 k0 k1 kz
  go_wp2_with fail
  refine (differ_ex _ _ _ W9.out A9.out).mono ?_
  rintro e w10 ⟨vl, rfl, ol, hb⟩
  have A := Lib.hid (words_below hb A9.out)
  have C := Lib.hid (words_below hb C9.out)
  have V := Lib.hid (words_below hb V9.out)
  have G := Lib.hid (words_below hb G9.out)
  have N := Lib.hid (ownI_nums ol)
  have B : Hid (Below w.heap.size w w10) := below_call hb B9.out (Nat.le_refl _)
  have k0 := (hb.cell (p := ⟨cb, 0, none⟩) lz).trans l0
  have k1 := (hb.cell (p := ⟨cb, 1, none⟩) lz).trans l1
  have kz := Nat.lt_of_lt_of_le lz hb.size
  clear ol hb W9 A9 C9 V9 G9 B9 l0 l1 lz
  go_wp2_with fail
  refine (same_yes [0, 1, 1, 2, 3, 5] _ _ _ (words_below (new_below _ _) A.out) (by exact words_new w10 [0, 1, 1, 2, 3, 5] 6 (by decide) rfl) (by decide)).mono ?_
  rintro e w11 ⟨rfl, hb⟩
  have hx11 : Below w10.heap.size w10 w11 := below_call hb (new_below _ _) (Nat.le_refl _)
  have C11 := Lib.hid (words_below hx11 C.out)
  have V11 := Lib.hid (words_below hx11 V.out)
  have G11 := Lib.hid (words_below hx11 G.out)
  have N11 := Lib.hid (nums_below hx11 N.out)
  have B11 : Hid (Below w.heap.size w w11) := below_call hx11 B.out (Nat.le_refl _)
  have k011 := (hx11.cell (p := ⟨cb, 0, none⟩) kz).trans k0
  have k111 := (hx11.cell (p := ⟨cb, 1, none⟩) kz).trans k1
  have kz11 := Nat.lt_of_lt_of_le kz hx11.size
  clear hb hx11 A C V G N B k0 k1 kz
  go_wp2_with fail
  refine (same_yes [0, 1, 2, 3, 0, 0] _ _ _ (words_below (new_below _ _) C11.out) (by exact words_new w11 [0, 1, 2, 3, 0, 0] 6 (by decide) rfl) (by decide)).mono ?_
  rintro e w12 ⟨rfl, hb⟩
  have hx12 : Below w11.heap.size w11 w12 := below_call hb (new_below _ _) (Nat.le_refl _)
  have V12 := Lib.hid (words_below hx12 V11.out)
  have G12 := Lib.hid (words_below hx12 G11.out)
  have N12 := Lib.hid (nums_below hx12 N11.out)
  have B12 : Hid (Below w.heap.size w w12) := below_call hx12 B11.out (Nat.le_refl _)
  have k012 := (hx12.cell (p := ⟨cb, 0, none⟩) kz11).trans k011
  have k112 := (hx12.cell (p := ⟨cb, 1, none⟩) kz11).trans k111
  have kz12 := Nat.lt_of_lt_of_le kz11 hx12.size
  clear hb hx12 C11 V11 G11 N11 B11 k011 k111 kz11
  go_wp2_with fail
  refine (same_yes [0, 9, 2, 3, 9, 2] _ _ _ (words_below (new_below _ _) V12.out) (by exact words_new w12 [0, 9, 2, 3, 9, 2] 6 (by decide) rfl) (by decide)).mono ?_
  rintro e w13 ⟨rfl, hb⟩
  have hx13 : Below w12.heap.size w12 w13 := below_call hb (new_below _ _) (Nat.le_refl _)
  have G13 := Lib.hid (words_below hx13 G12.out)
  have N13 := Lib.hid (nums_below hx13 N12.out)
  have B13 : Hid (Below w.heap.size w w13) := below_call hx13 B12.out (Nat.le_refl _)
  have k013 := (hx13.cell (p := ⟨cb, 0, none⟩) kz12).trans k012
  have k113 := (hx13.cell (p := ⟨cb, 1, none⟩) kz12).trans k112
  have kz13 := Nat.lt_of_lt_of_le kz12 hx13.size
  clear hb hx13 V12 G12 N12 B12 k012 k112 kz12
  go_wp2_with fail
  refine (same_yes [9] _ _ _ (words_below (new_below _ _) G13.out) (by exact words_new w13 [9] 1 (by decide) rfl) (by decide)).mono ?_
  rintro e w14 ⟨rfl, hb⟩
  have hx14 : Below w13.heap.size w13 w14 := below_call hb (new_below _ _) (Nat.le_refl _)
  have N14 := Lib.hid (nums_below hx14 N13.out)
  have B14 : Hid (Below w.heap.size w w14) := below_call hx14 B13.out (Nat.le_refl _)
  have k014 := (hx14.cell (p := ⟨cb, 0, none⟩) kz13).trans k013
  have k114 := (hx14.cell (p := ⟨cb, 1, none⟩) kz13).trans k113
  have kz14 := Nat.lt_of_lt_of_le kz13 hx14.size
  clear hb hx14 G13  N13 B13 k013 k113 kz13
  go_wp2_with fail
  refine (ints_yes [2, 3, 4] _ _ _ (nums_below (new_below _ _) N14.out) (by exact nums_new w14 [2, 3, 4] 3 (by decide) rfl) (by decide)).mono ?_
  rintro e wz ⟨rfl, hb⟩
  have hz : Below w.heap.size w wz := below_call hb (below_new B14.out (Nat.le_refl _) _) (Nat.le_refl _)
  clear hb
  go_wp2
  go_ret
  exact ⟨rfl, hz⟩
end Go.Proofs.Ytmjjbnjedafdaaa
