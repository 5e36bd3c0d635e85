/-
  Walk of the laws' own test 'awake'.
-/
import Derived.Test.YtohlaginanbclaaRun
import Derived.Test.YtohlaginanbclaaLightb
namespace Go.Proofs.Ytohlaginanbclaa
open Go.RowKit

def Five (b : Nat) (C N S K Q : Int) (w : World) : Prop := (w.cell? ⟨b, 0, none⟩ = some (.int .i64 C) ∧ w.cell? ⟨b, 1, none⟩ = some (.int .i64 N) ∧ w.cell? ⟨b, 2, none⟩ = some (.int .i64 S) ∧ w.cell? ⟨b, 3, none⟩ = some (.int .i64 K) ∧ w.cell? ⟨b, 4, none⟩ = some (.int .i64 Q)) ∧ b < w.heap.size
theorem five_call {W w1 : World} {b : Nat} {C N S K Q : Int} (hb : Below W.heap.size W w1) (h : Five b C N S K Q W) : Five b C N S K Q w1 := by
  obtain ⟨⟨h0, h1, h2, h3, h4⟩, hz⟩ := h
  exact ⟨⟨(hb.cell (p := ⟨b, 0, none⟩) hz).trans h0, (hb.cell (p := ⟨b, 1, none⟩) hz).trans h1, (hb.cell (p := ⟨b, 2, none⟩) hz).trans h2, (hb.cell (p := ⟨b, 3, none⟩) hz).trans h3, (hb.cell (p := ⟨b, 4, none⟩) hz).trans h4⟩, Nat.lt_of_lt_of_le hz hb.size⟩
theorem five_new {W : World} {b : Nat} {C N S K Q : Int} (o : Obj) (h : Five b C N S K Q W) : Five b C N S K Q (W.alloc o) := five_call ((Below.refl _ _).alloc (Nat.le_refl _) o) h

set_option maxHeartbeats 400000 in
theorem small_any (w : World) : Calls Try.prog 27 #[] w (Ret (.agg #[.int .i64 8, .int .i64 7, .int .i64 4, .int .i64 1, .int .i64 2]) w) := by
  go_enter Try.func27, Try.ntmps27
  go_wp2
  refine bodyPost_ret (v := .agg #[.int .i64 8, .int .i64 7, .int .i64 4, .int .i64 1, .int .i64 2]) (by simp [results, Try.results27, go_sem]) rfl ⟨rfl, by (repeat (first | exact Below.refl _ _ | (refine below_new ?_ (Nat.le_refl _) _) | (refine below_drewN ?_ _) | (refine Below.drew ?_) | (refine below_call (by assumption) ?_ (Nat.le_refl _)) | (refine below_set ?_ (by simp) _)))⟩

theorem adm_lit (o l n x : Int) (w : World) (k r : Int) (hx : x = 0 ∨ x = 5 ∨ x = 7 ∨ x = 11) (h : admE 8 7 4 1 2 o l n = x) (hk : kOf x = k) (hr : rOf x = r) :
    Calls Try.prog 14 #[.agg #[.int .i64 8, .int .i64 7, .int .i64 4, .int .i64 1, .int .i64 2], .int .i64 o, .int .i64 l, .int .i64 n] w (Ret (.tuple #[.int .i64 k, .int .i64 r]) w) := by
  rw [← hk, ← hr]; exact admit_val 8 7 4 1 2 o l n x w hx h
theorem most_lit (o l m x : Int) (w : World) (h : mostN 8 7 4 1 2 o l = m) (hx : chkE 8 7 4 1 2 o l = x) : Calls Try.prog 16 #[.agg #[.int .i64 8, .int .i64 7, .int .i64 4, .int .i64 1, .int .i64 2], .int .i64 o, .int .i64 l] w (Ret (.tuple #[.int .i64 m, .int .i64 x]) w) := by
  rw [← h, ← hx]; exact most_pub 8 7 4 1 2 o l w
theorem slack_lit (o m x : Int) (w : World) (h : slackN 8 7 4 1 2 o = m) (hx : occE 8 7 4 1 2 o = x) : Calls Try.prog 18 #[.agg #[.int .i64 8, .int .i64 7, .int .i64 4, .int .i64 1, .int .i64 2], .int .i64 o] w (Ret (.tuple #[.int .i64 m, .int .i64 x]) w) := by
  rw [← h, ← hx]; exact slack_pub 8 7 4 1 2 o w
theorem cars_lit (o m x : Int) (w : World) (h : carsN 8 7 4 1 2 o = m) (hx : occE 8 7 4 1 2 o = x) : Calls Try.prog 25 #[.agg #[.int .i64 8, .int .i64 7, .int .i64 4, .int .i64 1, .int .i64 2], .int .i64 o] w (Ret (.tuple #[.int .i64 m, .int .i64 x]) w) := by
  rw [← h, ← hx]; exact cars_pub 8 7 4 1 2 o w
theorem after_lit (o l n x : Int) (w : World) (h : admE 8 7 4 1 2 o l n = x) : Calls Try.prog 15 #[.agg #[.int .i64 8, .int .i64 7, .int .i64 4, .int .i64 1, .int .i64 2], .int .i64 o, .int .i64 l, .int .i64 n] w (Ret (.int .i64 x) w) := by
  rw [← h]; exact after_pub 8 7 4 1 2 o l n w
theorem run_two (b : Nat) (w : World) (h0 : w.cell? ⟨b, 0, none⟩ = some (.int .i64 3)) (h1 : w.cell? ⟨b, 1, none⟩ = some (.int .i64 2)) (hb : b < w.heap.size) :
    Calls Try.prog 12 #[.agg #[.int .i64 8, .int .i64 7, .int .i64 4, .int .i64 1, .int .i64 2], .int .i64 0, .int .i64 4, .slice (some ⟨b, 0, none⟩) 2 2] w (Ret (.tuple #[.int .i64 1, .int .i64 5]) w) := by
  have h := run_good 8 7 4 1 2 0 4 [3, 2] w b 0 2 (fun _ => hb) (fun i hi => by
    have hi' : i = 0 ∨ i = 1 := by simp at hi; omega
    rcases hi' with rfl | rfl
    · exact h0
    · exact h1) (by decide) (by decide) (by decide)
  exact h

set_option maxHeartbeats 2000000 in
theorem awake_any (w : World) : Calls Try.prog 11 #[] w (Ret (.bool true) w) := by
  go_enter Try.func11, Try.ntmps11
  go_wp2_with fail
  refine (small_any _).mono ?_
  rintro e w1 ⟨rfl, hb1⟩
  have hB1 := Lib.hid hb1
  clear hb1
  go_wp2_with fail
  have F1 : Five w1.heap.size 8 7 4 1 2 (w1.alloc (.cells #[.int .i64 8, .int .i64 7, .int .i64 4, .int .i64 1, .int .i64 2] 23)) := ⟨⟨by simp, by simp, by simp, by simp, by simp⟩, by simp⟩
  have G1 := Lib.hid F1
  clear F1
  refine (adm_lit 0 4 4 0 _ 1 0 (by decide) (by decide) rfl rfl).mono ?_
  rintro e w2 ⟨rfl, hb2⟩
  have G2 := Lib.hid (five_call hb2 G1.out)
  obtain ⟨⟨p0, p1, p2, p3, p4⟩, pz⟩ := G2.out
  have hB2 := Lib.hid (below_call hb2 (below_new hB1.out (Nat.le_refl _) _) (Nat.le_refl _))
  clear hb2
  go_wp2_with fail
  refine (adm_lit 1 4 4 5 _ 2 0 (by decide) (by decide) rfl rfl).mono ?_
  rintro e w3 ⟨rfl, hb3⟩
  have G3 := Lib.hid (five_call hb3 G2.out)
  obtain ⟨⟨q0, q1, q2, q3, q4⟩, qz⟩ := G3.out
  have hB3 := Lib.hid (below_call hb3 hB2.out (Nat.le_refl _))
  clear hb3 p0 p1 p2 p3 p4
  go_wp2_with fail
  refine (most_lit 1 3 3 0 _ (by decide) (by decide)).mono ?_
  rintro e w4 ⟨rfl, hb4⟩
  have G4 := Lib.hid (five_call hb4 G3.out)
  obtain ⟨⟨p0, p1, p2, p3, p4⟩, pz⟩ := G4.out
  have hB4 := Lib.hid (below_call hb4 hB3.out (Nat.le_refl _))
  clear hb4 q0 q1 q2 q3 q4
  go_wp2_with fail
  refine (slack_lit 1 3 0 _ (by decide) (by decide)).mono ?_
  rintro e w5 ⟨rfl, hb5⟩
  have G5 := Lib.hid (five_call hb5 G4.out)
  obtain ⟨⟨q0, q1, q2, q3, q4⟩, qz⟩ := G5.out
  have hB5 := Lib.hid (below_call hb5 hB4.out (Nat.le_refl _))
  clear hb5 p0 p1 p2 p3 p4
  go_wp2_with fail
  refine (run_two _ _ (by simp) (by simp) (by simp)).mono ?_
  rintro e w6 ⟨rfl, hb6⟩
  have G6 := Lib.hid (five_call hb6 (five_new _ G5.out))
  obtain ⟨⟨p0, p1, p2, p3, p4⟩, pz⟩ := G6.out
  have hB6 := Lib.hid (below_call hb6 (below_new hB5.out (Nat.le_refl _) _) (Nat.le_refl _))
  clear hb6 q0 q1 q2 q3 q4
  go_wp2_with fail
  refine (after_lit 4 4 1 5 _ (by decide)).mono ?_
  rintro e w7 ⟨rfl, hb7⟩
  have hB7 := Lib.hid (below_call hb7 hB6.out (Nat.le_refl _))
  clear hb7
  go_wp2
  go_ret
  exact ⟨rfl, hB7.out⟩
end Go.Proofs.Ytohlaginanbclaa
