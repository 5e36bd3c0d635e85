/-
  General lemmas, no program in sight: what is below a block stays; a law's post out of 'Below'; a slice of structs and structs of five fields opened.
-/
import Derived.WalkKit
import Derived.ProofKit
import Derived.OpenShut
import Derived.Lib.Hide
import Derived.Lib.SmallJoins
import Derived.Deep.Slices
import Derived.Deep.Fields
namespace Go.Proofs.Ytmjjbnjedafdaaa
open Go.RowKit Go.ChangeShapes Go.WideShapes Go.Deep Go.Joins

theorem below_new {B : Nat} {a w : World} (h : Below B a w) (hB : B ≤ a.heap.size) (o : Obj) : Below B a (w.alloc o) := h.alloc (Nat.le_trans hB h.size) o

theorem bcell {W w1 : World} (hb : Below W.heap.size W w1) : (∀ b o, b < W.heap.size → w1.cell? ⟨b, o, none⟩ = W.cell? ⟨b, o, none⟩) ∧ (∀ b o, b < W.heap.size → w1.frozen? ⟨b, o, none⟩ = W.frozen? ⟨b, o, none⟩) :=
  ⟨fun b o h => hb.cell (p := ⟨b, o, none⟩) h, fun b o h => hb.frozen (p := ⟨b, o, none⟩) h⟩

/-- What a callee that makes memory and changes nothing that was there hands back. -/
def Ret (v : Value) (w : World) (e : Ending) (w' : World) : Prop := e = .returned v ∧ Below w.heap.size w w'

theorem below_call {B : Nat} {a W w1 : World} (hb : Below W.heap.size W w1) (h : Below B a W) (hB : B ≤ a.heap.size) : Below B a w1 := h.trans (hb.mono (Nat.le_trans hB h.size))
theorem below_set {B : Nat} {a w : World} (h : Below B a w) {p : Addr} (hp : B ≤ p.block) (u : Value) : Below B a (w.setCell p u) := h.setCell hp u

theorem ri {k : IntKind} {a b : Int} (h : a = b) : Ending.returned (.int k a) = .returned (.int k b) := by rw [h]
theorem rb {a b : Bool} (h : a = b) : Ending.returned (.bool a) = .returned (.bool b) := by rw [h]
theorem ri2 {a b c d : Int} (h : a = b) (h' : c = d) : Ending.returned (.tuple #[.int .i64 a, .int .i64 c]) = .returned (.tuple #[.int .i64 b, .int .i64 d]) := by rw [h, h']

theorem below_drewN {B : Nat} {a w : World} (h : Below B a w) (n : Nat) : Below B a (w.drewN n) := ⟨h.os, h.tape, h.output, h.size, h.block⟩

theorem held5_call {B b : Nat} {a wa wb : World} {v0 v1 v2 v3 v4 : Value} (h : wa.cell? ⟨b, 0, none⟩ = some v0 ∧ wa.cell? ⟨b, 1, none⟩ = some v1 ∧ wa.cell? ⟨b, 2, none⟩ = some v2 ∧ wa.cell? ⟨b, 3, none⟩ = some v3 ∧ wa.cell? ⟨b, 4, none⟩ = some v4 ∧ b < wa.heap.size ∧ Below B a wa) (hb : Below wa.heap.size wa wb) (hB : B ≤ a.heap.size) :
    wb.cell? ⟨b, 0, none⟩ = some v0 ∧ wb.cell? ⟨b, 1, none⟩ = some v1 ∧ wb.cell? ⟨b, 2, none⟩ = some v2 ∧ wb.cell? ⟨b, 3, none⟩ = some v3 ∧ wb.cell? ⟨b, 4, none⟩ = some v4 ∧ b < wb.heap.size ∧ Below B a wb := by
  obtain ⟨h0, h1, h2, h3, h4, hz, hl⟩ := h
  exact ⟨(hb.cell (p := ⟨b, 0, none⟩) hz).trans h0, (hb.cell (p := ⟨b, 1, none⟩) hz).trans h1, (hb.cell (p := ⟨b, 2, none⟩) hz).trans h2, (hb.cell (p := ⟨b, 3, none⟩) hz).trans h3, (hb.cell (p := ⟨b, 4, none⟩) hz).trans h4, Nat.lt_of_lt_of_le hz hb.size, below_call hb hl hB⟩
theorem held5_new {B b : Nat} {a wa : World} {v0 v1 v2 v3 v4 : Value} (h : wa.cell? ⟨b, 0, none⟩ = some v0 ∧ wa.cell? ⟨b, 1, none⟩ = some v1 ∧ wa.cell? ⟨b, 2, none⟩ = some v2 ∧ wa.cell? ⟨b, 3, none⟩ = some v3 ∧ wa.cell? ⟨b, 4, none⟩ = some v4 ∧ b < wa.heap.size ∧ Below B a wa) (hB : B ≤ a.heap.size) (o : Obj) :
    (wa.alloc o).cell? ⟨b, 0, none⟩ = some v0 ∧ (wa.alloc o).cell? ⟨b, 1, none⟩ = some v1 ∧ (wa.alloc o).cell? ⟨b, 2, none⟩ = some v2 ∧ (wa.alloc o).cell? ⟨b, 3, none⟩ = some v3 ∧ (wa.alloc o).cell? ⟨b, 4, none⟩ = some v4 ∧ b < (wa.alloc o).heap.size ∧ Below B a (wa.alloc o) :=
  held5_call h ((Below.refl _ _).alloc (Nat.le_refl _) o) hB
theorem held7_call {B b : Nat} {a wa wb : World} {v0 v1 v2 v3 v4 v5 v6 : Value} (h : wa.cell? ⟨b, 0, none⟩ = some v0 ∧ wa.cell? ⟨b, 1, none⟩ = some v1 ∧ wa.cell? ⟨b, 2, none⟩ = some v2 ∧ wa.cell? ⟨b, 3, none⟩ = some v3 ∧ wa.cell? ⟨b, 4, none⟩ = some v4 ∧ wa.cell? ⟨b, 5, none⟩ = some v5 ∧ wa.cell? ⟨b, 6, none⟩ = some v6 ∧ b < wa.heap.size ∧ Below B a wa) (hb : Below wa.heap.size wa wb) (hB : B ≤ a.heap.size) :
    wb.cell? ⟨b, 0, none⟩ = some v0 ∧ wb.cell? ⟨b, 1, none⟩ = some v1 ∧ wb.cell? ⟨b, 2, none⟩ = some v2 ∧ wb.cell? ⟨b, 3, none⟩ = some v3 ∧ wb.cell? ⟨b, 4, none⟩ = some v4 ∧ wb.cell? ⟨b, 5, none⟩ = some v5 ∧ wb.cell? ⟨b, 6, none⟩ = some v6 ∧ b < wb.heap.size ∧ Below B a wb := by
  obtain ⟨h0, h1, h2, h3, h4, h5, h6, hz, hl⟩ := h
  exact ⟨(hb.cell (p := ⟨b, 0, none⟩) hz).trans h0, (hb.cell (p := ⟨b, 1, none⟩) hz).trans h1, (hb.cell (p := ⟨b, 2, none⟩) hz).trans h2, (hb.cell (p := ⟨b, 3, none⟩) hz).trans h3, (hb.cell (p := ⟨b, 4, none⟩) hz).trans h4, (hb.cell (p := ⟨b, 5, none⟩) hz).trans h5, (hb.cell (p := ⟨b, 6, none⟩) hz).trans h6, Nat.lt_of_lt_of_le hz hb.size, below_call hb hl hB⟩
theorem held7_new {B b : Nat} {a wa : World} {v0 v1 v2 v3 v4 v5 v6 : Value} (h : wa.cell? ⟨b, 0, none⟩ = some v0 ∧ wa.cell? ⟨b, 1, none⟩ = some v1 ∧ wa.cell? ⟨b, 2, none⟩ = some v2 ∧ wa.cell? ⟨b, 3, none⟩ = some v3 ∧ wa.cell? ⟨b, 4, none⟩ = some v4 ∧ wa.cell? ⟨b, 5, none⟩ = some v5 ∧ wa.cell? ⟨b, 6, none⟩ = some v6 ∧ b < wa.heap.size ∧ Below B a wa) (hB : B ≤ a.heap.size) (o : Obj) :
    (wa.alloc o).cell? ⟨b, 0, none⟩ = some v0 ∧ (wa.alloc o).cell? ⟨b, 1, none⟩ = some v1 ∧ (wa.alloc o).cell? ⟨b, 2, none⟩ = some v2 ∧ (wa.alloc o).cell? ⟨b, 3, none⟩ = some v3 ∧ (wa.alloc o).cell? ⟨b, 4, none⟩ = some v4 ∧ (wa.alloc o).cell? ⟨b, 5, none⟩ = some v5 ∧ (wa.alloc o).cell? ⟨b, 6, none⟩ = some v6 ∧ b < (wa.alloc o).heap.size ∧ Below B a (wa.alloc o) :=
  held7_call h ((Below.refl _ _).alloc (Nat.le_refl _) o) hB

theorem held7_drew {B b : Nat} {a wa : World} {v0 v1 v2 v3 v4 v5 v6 : Value} (h : wa.cell? ⟨b, 0, none⟩ = some v0 ∧ wa.cell? ⟨b, 1, none⟩ = some v1 ∧ wa.cell? ⟨b, 2, none⟩ = some v2 ∧ wa.cell? ⟨b, 3, none⟩ = some v3 ∧ wa.cell? ⟨b, 4, none⟩ = some v4 ∧ wa.cell? ⟨b, 5, none⟩ = some v5 ∧ wa.cell? ⟨b, 6, none⟩ = some v6 ∧ b < wa.heap.size ∧ Below B a wa) :
    wa.drew.cell? ⟨b, 0, none⟩ = some v0 ∧ wa.drew.cell? ⟨b, 1, none⟩ = some v1 ∧ wa.drew.cell? ⟨b, 2, none⟩ = some v2 ∧ wa.drew.cell? ⟨b, 3, none⟩ = some v3 ∧ wa.drew.cell? ⟨b, 4, none⟩ = some v4 ∧ wa.drew.cell? ⟨b, 5, none⟩ = some v5 ∧ wa.drew.cell? ⟨b, 6, none⟩ = some v6 ∧ b < wa.drew.heap.size ∧ Below B a wa.drew := by
  obtain ⟨h0, h1, h2, h3, h4, h5, h6, hz, hl⟩ := h
  exact ⟨h0, h1, h2, h3, h4, h5, h6, hz, hl.drew⟩

section
variable {H : Type} {enc : TypeId × Value → H} {P : Program}

theorem below_trodAll (hl : laidOutB P = true) {W W' : World} (hb : Below W.heap.size W W') :
    ∀ {ts : List TypeId} {vs : List Value} {ds : List (DataW H)} {ps : List MemPlace}, ts.all (fun t => P.readableRec t && decide (t < P.types.size)) = true →
      DataW.TrodAll enc P W 0 (fun _ => true) true ts vs ds ps → (∀ x ∈ ps, x.block < W.heap.size) → DataW.TrodAll enc P W' 0 (fun b => decide (b < W.heap.size)) true ts vs ds ps
  | [], [], [], _, _, h, _ => h
  | [], [], _ :: _, _, _, h, _ => h.elim
  | [], _ :: _, _, _, _, h, _ => by cases ‹List (DataW H)› <;> exact h.elim
  | _ :: _, [], _, _, _, h, _ => by cases ‹List (DataW H)› <;> exact h.elim
  | _ :: _, _ :: _, [], _, _, h, _ => h.elim
  | t :: ts, v :: vs, d :: ds, ps, ht, h, hlt => by
    obtain ⟨p, q, h1, h2, rfl⟩ := h
    simp only [List.all_cons, Bool.and_eq_true, decide_eq_true_eq] at ht
    exact ⟨p, q, Below.trod hl ht.1.1 ht.1.2 h1 hb (fun x hx => hlt x (List.mem_append_left _ hx)), below_trodAll hl hb ht.2 h2 (fun x hx => hlt x (List.mem_append_right _ hx)), rfl⟩

/-- A law that returns true, makes memory, and changes nothing that was there. -/
theorem law_post {f : Func} {s : ChangeSpec} {apart : Bool} {W W' : World} {args : Array Value} {ds gs : List (DataW H)} {before : List MemPlace}
    (hl : laidOutB P = true) (hts : f.params.toList.all (fun t => P.readableRec t && decide (t < P.types.size)) = true) (hvs : s.vars = []) (hrt : f.resultTypes = #[4]) (hbool : P.underlying 4 = some .bool)
    (hW : DataW.Whole enc P f.params.toList s.vars apart W args.toList ds gs before)
    (hr : (s.fn H (ds ++ gs)).results = [.lit (.bool true)]) (ha : (s.fn H (ds ++ gs)).args = ds) (hv : (s.fn H (ds ++ gs)).vars = [])
    (hb : Below W.heap.size W W') : s.post enc P f apart true false false W args (.bool true) W' := by
  have hW' := hW
  obtain ⟨p, q, hA, hV, he, _, _⟩ := hW
  rw [hvs] at hV
  have hq : q = [] ∧ gs = [] := by
    cases gs with
    | nil => exact ⟨hV, rfl⟩
    | cons a b => exact hV.elim
  have hlt : ∀ x ∈ before, x.block < W.heap.size := fun x hx => hW'.lt x hx
  refine ⟨ds, gs, before, [], p, [], hW', ?_, ?_, ?_, ?_, fun h => by cases h⟩
  · rw [hr, hrt]
    exact trodAll_mk1 (shut_bool hbool true)
  · rw [ha]
    exact below_trodAll hl hb hts hA (fun x hx => hlt x (by rw [he]; exact List.mem_append_left _ hx))
  · rw [hv, hvs]; rfl
  · refine World.keptBut_mono (fun x hx => ⟨hx, .inr (.inl ?_)⟩) (hb.frame (· ∈ before))
    rw [he, hq.1] at hx
    simpa using hx
end
end Go.Proofs.Ytmjjbnjedafdaaa
