/-
  A list of integers that came in, with its capacity; plain facts for the law AdmitSums.
-/
import Derived.Test.YtohlaginanbclaaList
namespace Go.Proofs.Ytohlaginanbclaa
open Go.ChangeShapes Go.WideShapes Go.ChangeAt Go.RowKit Go.Joins Go.Deep

def Ints3 (w : World) (v : Value) (zs : List Int) : Prop :=
  (zs = [] ∧ v = .slice none 0 0) ∨ (zs = [] ∧ ∃ (a : Addr) (cap : Nat), v = .slice (some a) 0 cap) ∨
    (0 < zs.length ∧ ∃ zb off cap : Nat, v = .slice (some ⟨zb, off, none⟩) zs.length cap ∧ zs.length ≤ cap ∧ zb < w.heap.size ∧ ∀ i : Nat, i < zs.length → w.cell? ⟨zb, off + i, none⟩ = some (.int .i64 (zs.getD i 0)))
theorem open_list3 {H : Type} {enc : TypeId × Value → H} {w : World} {base : Nat} {held : Bool} {r : Reach} {b0 : Nat} {v : Value} {d : DataW H} {p : List MemPlace} (hv : Value.okWide Try.prog w r b0 26 v) (h : DataW.Trod enc Try.prog w base (fun _ => true) held 26 v d p) :
    ∃ zs : List Int, Ints3 w v zs := by
  obtain ⟨a, len, cap, rfl⟩ := okWide_slice Try.underlying26 hv
  obtain ⟨fuel, hf⟩ := h
  rcases open_ints Try.underlying26 Try.underlying3 cellsInt hf with ⟨hcs, _⟩ | ⟨a', len', cap', zs, hcs, _, hl, _, hlen, _, hcell, _⟩
  · simp [Value.cells] at hcs
    obtain ⟨rfl, rfl, rfl⟩ := hcs
    exact ⟨[], .inl ⟨rfl, rfl⟩⟩
  · simp [Value.cells] at hcs
    obtain ⟨rfl, rfl, rfl⟩ := hcs
    simp at hlen
    by_cases h0 : len = 0
    · subst h0
      exact ⟨[], .inr (.inl ⟨rfl, _, _, rfl⟩)⟩
    · obtain ⟨b, off, rfl, hc⟩ := ints_at hcell (by omega)
      have hb := World.block_lt_of_cell? (h := hc 0 (by omega))
      have ht : (zs.take len).length = len := by rw [List.length_take]; omega
      refine ⟨zs.take len, .inr (.inr ⟨by omega, b, off, cap, by rw [ht], by omega, hb, fun i hi => ?_⟩)⟩
      rw [ht] at hi
      rw [hc i (by omega)]
      simp [List.getD, hi]
theorem ints3_at {w : World} {v : Value} {zs : List Int} (h : Ints3 w v zs) : IntsAt w v zs := by
  rcases h with ⟨rfl, rfl⟩ | ⟨rfl, a, cap, rfl⟩ | ⟨_, zb, off, cap, rfl, _, hz, hc⟩
  · exact .inl ⟨rfl, _, _, rfl⟩
  · exact .inl ⟨rfl, _, _, rfl⟩
  · exact .inr ⟨zb, off, cap, rfl, fun _ => hz, hc⟩

theorem runN_cases (C N S K Q : Int) (zs : List Int) : ∀ o l : Int, (runN C N S K Q o l zs).2 = 0 ∨ (runN C N S K Q o l zs).2 = 5 ∨ (runN C N S K Q o l zs).2 = 7 ∨ (runN C N S K Q o l zs).2 = 11 := by
  induction zs with
  | nil => intro o l; exact .inl rfl
  | cons n r ih =>
    intro o l
    by_cases h : admE C N S K Q o l n = 0
    · rw [runN_yes h]; exact ih _ _
    · rw [runN_no h]; exact admE_cases C N S K Q o l n

/-- A part of a list that lies in memory. -/
theorem ints_drop {w : World} {zs : List Int} {zb off cap h n : Nat} (hz : zb < w.heap.size) (hc : ∀ i : Nat, i < zs.length → w.cell? ⟨zb, off + i, none⟩ = some (.int .i64 (zs.getD i 0))) (hn : n = zs.length - h) : IntsAt w (.slice (some ⟨zb, off + h, none⟩) n cap) (zs.drop h) := by
  have hl : (zs.drop h).length = n := by rw [List.length_drop]; omega
  refine .inr ⟨zb, off + h, cap, by rw [hl], fun _ => hz, fun i hi => ?_⟩
  rw [hl] at hi
  rw [Nat.add_assoc, hc (h + i) (by omega)]
  simp [List.getD]

theorem runX_ok {C N S K Q o l e : Int} {d : Nat} {zs : List Int} (hc : cfgB C N S K Q = true) (hs : stB C N S o l = true) (hl : zs.length ≤ 200) (h : runN C N S K Q o l zs = (d, e)) : runX C N S K Q o l zs = ((d : Int), e) := by
  unfold runX; rw [hc, hs, Bool.and_true, if_pos rfl, if_neg (by omega), h]
/-- Run in two parts. -/
theorem run_part {C N S K Q o l e : Int} {d h k : Nat} {zs : List Int} (hc : cfgB C N S K Q = true) (hl : zs.length ≤ 60) (R : RunSum C N S K Q o l zs d e) (hh : h ≤ d) (hk : k = h) : runX C N S K Q (o + smTo zs k) (l - smTo zs k) (zs.drop h) = ((d : Int) - (h : Int), e) := by
  subst hk
  have := runX_ok hc (R.state k hh) (by rw [List.length_drop]; omega) (R.rest k hh)
  rw [this, show ((d - k : Nat) : Int) = (d : Int) - (k : Int) by omega]
end Go.Proofs.Ytohlaginanbclaa
