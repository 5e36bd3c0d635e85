/-
  Walks: slices.IndexFunc and ContainsFunc with the layer's own test; Zero.
-/
import Derived.Test.YtmjjbnjedafdaaaFrame
namespace Go.Proofs.Ytmjjbnjedafdaaa
open Go.RowKit

theorem zero1_any (x : Int) (w : World) : Calls Try.prog 40 #[.int .u64 x] w fun e w' => e = .returned (.bool (x != 0)) ∧ w = w' := by
  go_enter Try.func40, Try.ntmps40
  go_wp2
  go_ret
  exact ⟨rfl, rfl⟩
theorem zero1_val {x : Int} {b : Bool} (w : World) (h : (x != 0) = b) : Calls Try.prog 40 #[.int .u64 x] w fun e w' => e = .returned (.bool b) ∧ w = w' := by rw [← h]; exact zero1_any x w

/-- The place of the first word that is not 0, or -1. -/
def firstNZ (l : List Int) : Int := match l.findIdx? (fun x => x != 0) with | some i => (i : Int) | none => -1
theorem firstNZ_none {l : List Int} (h : ∀ j, j < l.length → l.getD j 0 = 0) : firstNZ l = -1 := by
  unfold firstNZ
  rw [List.findIdx?_eq_none_iff.2]
  intro x hx
  obtain ⟨j, hj, rfl⟩ := List.getElem_of_mem hx
  have := h j hj
  simp [List.getD, hj] at this
  simp [this]
theorem firstNZ_some {l : List Int} {k : Nat} (hk : k < l.length) (h : ∀ j, j < k → l.getD j 0 = 0) (hx : l.getD k 0 ≠ 0) : firstNZ l = k := by
  unfold firstNZ
  rw [List.findIdx?_eq_some_iff_getElem.2 ⟨hk, by simpa [List.getD, hk] using hx, fun j hj => by
    have := h j hj
    simp [List.getD, show j < l.length by omega] at this
    simp [this]⟩]
theorem firstNZ_nonneg (l : List Int) : (decide (0 ≤ firstNZ l)) = !l.all (fun x => x == 0) := by
  unfold firstNZ
  cases h : l.findIdx? (fun x => x != 0) with
  | none =>
    rw [List.findIdx?_eq_none_iff] at h
    have : l.all (fun x => x == 0) = true := by
      rw [List.all_eq_true]; intro x hx; have := h x hx; simpa using this
    rw [this]; rfl
  | some i =>
    obtain ⟨h1, h2, _⟩ := List.findIdx?_eq_some_iff_getElem.1 h
    have : l.all (fun x => x == 0) = false := by
      rw [List.all_eq_false]; exact ⟨l[i], List.getElem_mem h1, by simpa using h2⟩
    rw [this]
    simp

set_option maxHeartbeats 1000000 in
theorem index_some (l : List Int) (zb off cap : Nat) (w : World) (hl : l.length ≤ 100000) (hc : ∀ i : Nat, i < l.length → w.cell? ⟨zb, off + i, none⟩ = some (.int .u64 (l.getD i 0))) :
    Calls Try.prog 47 #[.slice (some ⟨zb, off, none⟩) l.length cap, .func (.func 40) #[] #[]] w fun e w' => e = .returned (.int .i64 (firstNZ l)) ∧ w = w' := by
  have HC := Lib.hid hc
  clear hc
  go_enter Try.func47, Try.ntmps47
  go_wp2_with fail
  go_loop [8] (fun i => ∃ k : Nat, k ≤ l.length ∧ i = .int .i64 k ∧ Hid (∀ j, j < k → l.getD j 0 = 0)) (fun i => l.length - (intOf i).toNat)
  case atStart => exact ⟨0, Nat.zero_le _, rfl, (fun j hj => by omega : ∀ j, j < 0 → l.getD j 0 = 0)⟩
  case round =>
    obtain ⟨k, hk, rfl, HE⟩ := hrel
    by_cases hkl : k < l.length
    · have gc := HC.out k hkl
      generalize hx : l.getD k 0 = x at *
      have HX := Lib.hid hx
      clear hx
      by_cases h0 : x = 0
      · have H1 : Hid ((x != 0) = false) := (by simp [h0] : (x != 0) = false)
        have H0 := Lib.hid h0
        clear h0
        go_wp2_with (first | (go_at_call 40; refine (zero1_val _ H1.out).mono ?_; rintro e w1 ⟨rfl, rfl⟩))
        refine ⟨⟨k + 1, by omega, by go_num, ?_⟩, by simp [intOf]; omega⟩
        intro j hj
        by_cases hjk : j = k
        · rw [hjk, HX.out, H0.out]
        · exact HE.out j (by omega)
      · have H1 : Hid ((x != 0) = true) := (by simpa using h0 : (x != 0) = true)
        have HF : Hid (firstNZ l = k) := firstNZ_some hkl HE.out (by rw [HX.out]; exact h0)
        clear h0
        go_wp2_with (first | (go_at_call 40; refine (zero1_val _ H1.out).mono ?_; rintro e w1 ⟨rfl, rfl⟩))
        go_ret
        exact ⟨ri HF.out.symm, rfl⟩
    · have HF : Hid (firstNZ l = -1) := firstNZ_none (fun j hj => HE.out j (by omega))
      go_wp2
      go_ret
      exact ⟨ri HF.out.symm, rfl⟩

set_option maxHeartbeats 400000 in
theorem contains_some (l : List Int) (zb off cap : Nat) (w : World) (hl : l.length ≤ 100000) (hc : ∀ i : Nat, i < l.length → w.cell? ⟨zb, off + i, none⟩ = some (.int .u64 (l.getD i 0))) :
    Calls Try.prog 39 #[.slice (some ⟨zb, off, none⟩) l.length cap, .func (.func 40) #[] #[]] w fun e w' => e = .returned (.bool (!l.all (fun x => x == 0))) ∧ w = w' := by
  have HC := Lib.hid hc
  have HF := Lib.hid (firstNZ_nonneg l)
  clear hc
  go_enter Try.func39, Try.ntmps39
  go_wp2_with (first | (go_at_call 47; refine (index_some l _ _ _ _ hl HC.out).mono ?_; rintro e w1 ⟨rfl, rfl⟩))
  go_ret
  exact ⟨rb HF.out, rfl⟩
theorem contains_val {l : List Int} {zb off cap n : Nat} {b : Bool} (w : World) (hl : l.length ≤ 100000) (hc : ∀ i : Nat, i < l.length → w.cell? ⟨zb, off + i, none⟩ = some (.int .u64 (l.getD i 0))) (hn : n = l.length) (hb : l.all (fun x => x == 0) = !b) :
    Calls Try.prog 39 #[.slice (some ⟨zb, off, none⟩) n cap, .func (.func 40) #[] #[]] w fun e w' => e = .returned (.bool b) ∧ w = w' := by
  subst hn
  have := contains_some l zb off cap w hl hc; rw [hb, Bool.not_not] at this; exact this

/-- What Zero returns. -/
def zeroR (zs : List Int) (a b : Int) : Bool × Int := if chkA zs ≠ 0 then (false, chkA zs) else if a < 1 ∨ b < a ∨ (zs.length : Int) < b then (false, 7) else ((cut zs a.toNat (b - a).toNat).all (fun x => x == 0), 0)

set_option maxHeartbeats 1000000 in
theorem zero_pub (zs : List Int) (a b : Int) (v : Value) (w : World) (hv : Words w v zs) : Calls Try.prog 21 #[v, .int .i64 a, .int .i64 b] w fun e w' => e = .returned (.tuple #[.bool (zeroR zs a b).1, .int .i64 (zeroR zs a b).2]) ∧ w = w' := by
  unfold zeroR
  have HV := Lib.hid hv
  by_cases hc : chkA zs = 0
  · rw [if_neg (by simpa using hc)]
    obtain ⟨l1, l2, l3⟩ := chk_ok hc
    obtain ⟨zb, off, cap, rfl, h1, h2, h3⟩ := words_some hv l1
    have HC := Lib.hid hc
    have H3 := Lib.hid h3
    clear hc hv l3 h3
    by_cases hr : a < 1 ∨ b < a ∨ (zs.length : Int) < b
    · rw [if_pos hr]
      have hr' : b < a ∨ (¬ b < a ∧ (zs.length : Int) < b) ∨ (¬ b < a ∧ ¬ (zs.length : Int) < b ∧ a < 1) := by omega
      clear hr
      rcases hr' with h5 | ⟨h5, h6⟩ | ⟨h5, h6, h7⟩
      · go_enter Try.func21, Try.ntmps21
        go_wp2_with (first | (go_at_call 29; refine (check_val _ HV.out HC.out).mono ?_; rintro e w1 ⟨rfl, rfl⟩))
        go_ret2
        exact ⟨rfl, rfl⟩
      · go_enter Try.func21, Try.ntmps21
        go_wp2_with (first | (go_at_call 29; refine (check_val _ HV.out HC.out).mono ?_; rintro e w1 ⟨rfl, rfl⟩))
        go_ret2
        exact ⟨rfl, rfl⟩
      · have HP : Hid (∀ n, partB zs.length a n = false) := fun n => partB_false.2 (by omega)
        go_enter Try.func21, Try.ntmps21
        go_wp2_with (first | (go_at_call 29; refine (check_val _ HV.out HC.out).mono ?_; rintro e w1 ⟨rfl, rfl⟩) | (go_at_call 38; refine (part_no _ _ _ _ _ _ l2 (HP.out _)).mono ?_; rintro e w1 ⟨rfl, rfl⟩))
        go_ret2
        exact ⟨rfl, rfl⟩
    · rw [if_neg hr]
      obtain ⟨a, rfl⟩ := Int.eq_ofNat_of_zero_le (show 0 ≤ a by omega)
      obtain ⟨n, hn⟩ := Int.eq_ofNat_of_zero_le (show 0 ≤ b - (a : Int) by omega)
      have hb : b = (a : Int) + (n : Int) := by omega
      subst hb
      have hn' : ((a : Int) + (n : Int) - (a : Int)) = (n : Int) := by omega
      rw [hn', Int.toNat_natCast, Int.toNat_natCast]
      have hcl := cut_length zs a n (by omega)
      have HCL := Lib.hid hcl
      have HCC : Hid (∀ i : Nat, i < (cut zs a n).length → w.cell? ⟨zb, off + a + i, none⟩ = some (.int .u64 ((cut zs a n).getD i 0))) := by
        intro i hi
        rw [hcl] at hi
        rw [cut_get _ _ _ _ hi, Nat.add_assoc, H3.out (a + i) (by omega)]
      have t1 : ¬ (a : Int) + (n : Int) < (a : Int) := by omega
      have t2 : ¬ (zs.length : Int) < (a : Int) + (n : Int) := by omega
      have t3 : a + n ≤ zs.length := by omega
      have t4 : 1 ≤ a := by omega
      clear hcl hr hn
      by_cases hz : n = 0
      · subst hz
        have q : (cut zs a 0).all (fun x => x == 0) = true := by simp [cut]
        rw [q]
        clear q
        go_enter Try.func21, Try.ntmps21
        go_wp2_with fail
        refine (check_val _ HV.out HC.out).mono ?_
        rintro e w1 ⟨rfl, rfl⟩
        go_wp2_with fail
        refine (part_zero _ _ _ _ _ _ t4 (by omega) h1 l2).mono ?_
        rintro e w1 ⟨rfl, rfl⟩
        go_wp2_with fail
        refine (contains_val (l := []) (b := false) _ (by simp) (by simp) rfl rfl).mono ?_
        rintro e w1 ⟨rfl, rfl⟩
        go_wp2
        go_ret2
        exact ⟨rfl, rfl⟩
      · cases hq : (cut zs a n).all (fun x => x == 0)
        all_goals
          have HQ := Lib.hid hq
          clear hq
          go_enter Try.func21, Try.ntmps21
          go_wp2_with fail
          refine (check_val _ HV.out HC.out).mono ?_
          rintro e w1 ⟨rfl, rfl⟩
          go_wp2_with fail
          refine (part_some _ _ _ _ _ _ _ t4 t3 h1 l2 (by omega)).mono ?_
          rintro e w1 ⟨rfl, rfl⟩
          go_wp2_with fail
          first | (refine (contains_val (l := cut zs a n) (b := true) _ (by rw [HCL.out]; omega) HCC.out HCL.out.symm HQ.out).mono ?_) | (refine (contains_val (l := cut zs a n) (b := false) _ (by rw [HCL.out]; omega) HCC.out HCL.out.symm HQ.out).mono ?_)
          rintro e w1 ⟨rfl, rfl⟩
          go_wp2
          go_ret2
          exact ⟨rfl, rfl⟩
  · rw [if_pos (by simpa using hc)]
    have t1 : (chkA zs != 0) = true := by simpa using hc
    clear hc hv
    generalize hx : chkA zs = x at *
    have HX := Lib.hid hx
    clear hx
    go_enter Try.func21, Try.ntmps21
    go_wp2_with (first | (go_at_call 29; refine (check_val _ HV.out HX.out).mono ?_; rintro e w1 ⟨rfl, rfl⟩))
    go_ret2
    exact ⟨rfl, rfl⟩
end Go.Proofs.Ytmjjbnjedafdaaa
