/-
  A list of integers that came in: opened; kept by calls; Run and its reference at any list.
-/
import Derived.Test.YtohlaginanbclaaArgs
import Derived.Test.YtohlaginanbclaaRefe
namespace Go.Proofs.Ytohlaginanbclaa
open Go.ChangeShapes Go.WideShapes Go.ChangeAt Go.RowKit Go.Joins Go.Deep

theorem open_list {H : Type} {enc : TypeId × Value → H} {w : World} {base : Nat} {held : Bool} {r : Reach} {b0 : Nat} {v : Value} {d : DataW H} {p : List MemPlace} (hv : Value.okWide Try.prog w r b0 26 v) (h : DataW.Trod enc Try.prog w base (fun _ => true) held 26 v d p) :
    ∃ zs : List Int, IntsAt w v zs := by
  obtain ⟨a, len, cap, rfl⟩ := okWide_slice Try.underlying26 hv
  obtain ⟨fuel, hf⟩ := h
  rcases open_ints Try.underlying26 Try.underlying3 cellsInt hf with ⟨hcs, _⟩ | ⟨a', len', cap', zs, hcs, _, hl, _, hlen, _, hcell, _⟩
  · simp [Value.cells] at hcs
    obtain ⟨rfl, rfl, rfl⟩ := hcs
    exact ⟨[], .inl ⟨rfl, _, _, rfl⟩⟩
  · simp [Value.cells] at hcs
    obtain ⟨rfl, rfl, rfl⟩ := hcs
    simp at hlen
    by_cases h0 : len = 0
    · subst h0
      exact ⟨[], .inl ⟨rfl, _, _, rfl⟩⟩
    · obtain ⟨b, off, rfl, hc⟩ := ints_at hcell (by omega)
      have hb := World.block_lt_of_cell? (h := hc 0 (by omega))
      have ht : (zs.take len).length = len := by rw [List.length_take]; omega
      refine ⟨zs.take len, .inr ⟨b, off, cap, by rw [ht], fun _ => hb, fun i hi => ?_⟩⟩
      rw [ht] at hi
      rw [hc i (by omega)]
      simp [List.getD, hi]

theorem ints_slice {w : World} {v : Value} {zs : List Int} (h : IntsAt w v zs) : ∃ (a : Option Addr) (cap : Nat), v = .slice a zs.length cap := by
  rcases h with ⟨rfl, a, cap, rfl⟩ | ⟨zb, off, cap, rfl, _, _⟩
  · exact ⟨a, cap, rfl⟩
  · exact ⟨_, cap, rfl⟩
theorem ints_below {B : Nat} {w w1 : World} {v : Value} {zs : List Int} (hb : Below B w w1) (hB : B = w.heap.size) (h : IntsAt w v zs) : IntsAt w1 v zs := by
  subst hB
  rcases h with ⟨rfl, a, cap, rfl⟩ | ⟨zb, off, cap, rfl, hz, hc⟩
  · exact .inl ⟨rfl, a, cap, rfl⟩
  · refine .inr ⟨zb, off, cap, rfl, fun h => Nat.lt_of_lt_of_le (hz h) hb.size, fun i hi => ?_⟩
    exact (hb.cell (p := ⟨zb, off + i, none⟩) (hz (by omega))).trans (hc i hi)

/-- What Run hands back, whatever it is called with. -/
def runX (C N S K Q o l : Int) (zs : List Int) : Int × Int :=
  if cfgB C N S K Q && stB C N S o l then (if 200 < zs.length then (0, 3) else (((runN C N S K Q o l zs).1 : Nat), (runN C N S K Q o l zs).2)) else (0, 7)

theorem run_all (C N S K Q o l : Int) (zs : List Int) (v : Value) (w : World) (hv : IntsAt w v zs) :
    Calls Try.prog 12 #[.agg #[.int .i64 C, .int .i64 N, .int .i64 S, .int .i64 K, .int .i64 Q], .int .i64 o, .int .i64 l, v] w (Ret (.tuple #[.int .i64 (runX C N S K Q o l zs).1, .int .i64 (runX C N S K Q o l zs).2]) w) := by
  unfold runX
  cases h : (cfgB C N S K Q && stB C N S o l)
  · exact run_bad C N S K Q o l v w h
  · rw [Bool.and_eq_true] at h
    by_cases hl : 200 < zs.length
    · rw [if_pos rfl, if_pos hl]
      obtain ⟨a, cap, rfl⟩ := ints_slice hv
      exact run_long C N S K Q o l a zs.length cap w hl h.1 h.2
    · rw [if_pos rfl, if_neg hl]
      exact run_pub C N S K Q o l zs v w hv (by omega) h.1 h.2
theorem refRun_all (C N S K Q o l : Int) (zs : List Int) (v : Value) (w : World) (hv : IntsAt w v zs) :
    Calls Try.prog 13 #[.agg #[.int .i64 C, .int .i64 N, .int .i64 S, .int .i64 K, .int .i64 Q], .int .i64 o, .int .i64 l, v] w (Ret (.tuple #[.int .i64 (runX C N S K Q o l zs).1, .int .i64 (runX C N S K Q o l zs).2]) w) := by
  unfold runX
  cases h : (cfgB C N S K Q && stB C N S o l)
  · obtain ⟨a, cap, rfl⟩ := ints_slice hv
    exact refRun_bad C N S K Q o l a _ _ w h
  · rw [Bool.and_eq_true] at h
    by_cases hl : 200 < zs.length
    · rw [if_pos rfl, if_pos hl]
      obtain ⟨a, cap, rfl⟩ := ints_slice hv
      exact refRun_long C N S K Q o l a zs.length cap w hl h.1 h.2
    · rw [if_pos rfl, if_neg hl]
      exact refRun_pub C N S K Q o l zs v w hv (by omega) h.1 h.2
theorem run_at {C N S K Q o l d x : Int} {zs : List Int} {v : Value} (w : World) (hv : IntsAt w v zs) (h : runX C N S K Q o l zs = (d, x)) :
    Calls Try.prog 12 #[.agg #[.int .i64 C, .int .i64 N, .int .i64 S, .int .i64 K, .int .i64 Q], .int .i64 o, .int .i64 l, v] w (Ret (.tuple #[.int .i64 d, .int .i64 x]) w) := by
  have := run_all C N S K Q o l zs v w hv; rw [h] at this; exact this
end Go.Proofs.Ytohlaginanbclaa
