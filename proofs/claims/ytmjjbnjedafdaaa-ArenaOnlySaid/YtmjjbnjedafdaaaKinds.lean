/-
  The map of the player's methods: built, and asked.
-/
import Derived.Test.YtmjjbnjedafdaaaProg
import Derived.Test.YtmjjbnjedafdaaaMem
import Derived.Maps.OwnSet
import Derived.Carry
namespace Go.Proofs.Ytmjjbnjedafdaaa
open Go.RowKit Go.Maps

def fnV (P f : Nat) : Value := .func (.func f) #[.pointer (some ⟨P, 0, none⟩)] #[]
open Classical in
noncomputable def fnR (P : Nat) (v : Value) : Option (DataW Unit × List MemPlace) :=
  if v = fnV P 43 then some (.lit (.int .i64 1), []) else if v = fnV P 44 then some (.lit (.int .i64 2), []) else if v = fnV P 45 then some (.lit (.int .i64 3), []) else if v = fnV P 46 then some (.lit (.int .i64 4), []) else if v = .nilFunc then some (.lit (.int .i64 0), []) else none

theorem zeroFn (w : World) : (zeroValue 73).run Try.prog w = .ok .nilFunc w := by kernel_rfl
theorem keyI {k : Int} (h : (Lit.int .i64 k).wf = true) : keyOf Try.prog 3 (.int .i64 k) = some (.int .i64 k) := by simp [keyOf, mapKey, Try.underlying3, h]

theorem fnR1 (P : Nat) : fnR P (fnV P 43) = some (.lit (.int .i64 1), []) := by unfold fnR; rw [if_pos rfl]
theorem fnR2 (P : Nat) : fnR P (fnV P 44) = some (.lit (.int .i64 2), []) := by unfold fnR; rw [if_neg (by simp [fnV]), if_pos rfl]
theorem fnR3 (P : Nat) : fnR P (fnV P 45) = some (.lit (.int .i64 3), []) := by unfold fnR; rw [if_neg (by simp [fnV]), if_neg (by simp [fnV]), if_pos rfl]
theorem fnR4 (P : Nat) : fnR P (fnV P 46) = some (.lit (.int .i64 4), []) := by unfold fnR; rw [if_neg (by simp [fnV]), if_neg (by simp [fnV]), if_neg (by simp [fnV]), if_pos rfl]
theorem fnR0 (P : Nat) : fnR P .nilFunc = some (.lit (.int .i64 0), []) := by unfold fnR; rw [if_neg (by simp [fnV]), if_neg (by simp [fnV]), if_neg (by simp [fnV]), if_neg (by simp [fnV]), if_pos rfl]
theorem fnR_inv {P : Nat} {v : Value} {n : Int} {ps : List MemPlace} (h : fnR P v = some (.lit (.int .i64 n), ps)) :
    (n = 1 → v = fnV P 43) ∧ (n = 2 → v = fnV P 44) ∧ (n = 3 → v = fnV P 45) ∧ (n = 4 → v = fnV P 46) ∧ (n = 0 → v = .nilFunc) := by
  unfold fnR at h
  split at h
  · rename_i e; simp at h; obtain ⟨rfl, _⟩ := h; simp [e]
  · split at h
    · rename_i e; simp at h; obtain ⟨rfl, _⟩ := h; simp [e]
    · split at h
      · rename_i e; simp at h; obtain ⟨rfl, _⟩ := h; simp [e]
      · split at h
        · rename_i e; simp at h; obtain ⟨rfl, _⟩ := h; simp [e]
        · split at h
          · rename_i e; simp at h; obtain ⟨rfl, _⟩ := h; simp [e]
          · cases h

def D4 : DataW Unit := ((((DataW.map []).put (.int .i64 1) (.lit (.int .i64 1))).put (.int .i64 2) (.lit (.int .i64 2))).put (.int .i64 3) (.lit (.int .i64 3))).put (.int .i64 4) (.lit (.int .i64 4))
theorem D4_is : D4 = .map [(.int .i64 1, .lit (.int .i64 1)), (.int .i64 2, .lit (.int .i64 2)), (.int .i64 3, .lit (.int .i64 3)), (.int .i64 4, .lit (.int .i64 4))] := by rfl

def Kinds (M P : Nat) (w : World) : Prop := w.ownsMap Try.prog 3 (fnR P) M 4 D4
theorem kinds_of {M P : Nat} {w w' : World} (h : Kinds M P w) (hb : w'.heap[M]? = w.heap[M]?) : Kinds M P w' := by
  obtain ⟨es, clock, h1, h2⟩ := h
  exact ⟨es, clock, by rw [hb]; exact h1, h2⟩

theorem kinds_made (w : World) (P : Nat) : ∃ w1 w2 w3 w4 : World, (Instr.mapUpdate 74 (.map (some w.heap.size)) (.int .i64 1) (fnV P 43)).run Try.prog (w.alloc (.map #[] 0)) = .ok () w1 ∧
    (Instr.mapUpdate 74 (.map (some w.heap.size)) (.int .i64 2) (fnV P 44)).run Try.prog w1 = .ok () w2 ∧ (Instr.mapUpdate 74 (.map (some w.heap.size)) (.int .i64 3) (fnV P 45)).run Try.prog w2 = .ok () w3 ∧
    (Instr.mapUpdate 74 (.map (some w.heap.size)) (.int .i64 4) (fnV P 46)).run Try.prog w3 = .ok () w4 ∧ Kinds w.heap.size P w4 ∧ w.heap.size < w4.heap.size ∧ Below w.heap.size w w4 := by
  have K := int_keyed (P := Try.prog) (k := 3) Try.underlying3
  obtain ⟨w1, u1, o1, g1⟩ := (World.ownsMap_made w Try.prog 3 (fnR P)).update K Try.underlying74 (by decide) (keyI (k := 1) (by decide)) (fnR1 P)
  obtain ⟨w2, u2, o2, g2⟩ := o1.update K Try.underlying74 (by decide) (keyI (k := 2) (by decide)) (fnR2 P)
  obtain ⟨w3, u3, o3, g3⟩ := o2.update K Try.underlying74 (by decide) (keyI (k := 3) (by decide)) (fnR3 P)
  obtain ⟨w4, u4, o4, g4⟩ := o3.update K Try.underlying74 (by decide) (keyI (k := 4) (by decide)) (fnR4 P)
  have b1 : Below w.heap.size w w4 := (((((Below.refl w.heap.size w).alloc (Nat.le_refl _) (.map #[] 0)).grown g1 (by simp) (by simp)).grown g2 (by have := g1.size; simp at this; omega) (by simp)).grown g3 (by have := g1.size; have := g2.size; simp at *; omega) (by simp)).grown g4 (by have := g1.size; have := g2.size; have := g3.size; simp at *; omega) (by simp)
  exact ⟨w1, w2, w3, w4, u1, u2, u3, u4, o4, o4.lt, b1⟩

theorem look_of {M P : Nat} {w : World} (h : Kinds M P w) {k : Int} (hk : (Lit.int .i64 k).wf = true) : ∃ v ps, (Instr.lookup 74 (.map (some M)) (.int .i64 k) true).run Try.prog w = .ok (.tuple #[v, .bool (Maps.has D4 (.int .i64 k))]) w ∧ fnR P v = some (D4.atKey (.int .i64 k) (.lit (.int .i64 0)), ps) :=
  h.look_ok (int_keyed Try.underlying3) Try.underlying74 (zeroFn w) (fnR0 P) (keyI hk)
theorem look1 {M P : Nat} {w : World} (h : Kinds M P w) : (Instr.lookup 74 (.map (some M)) (.int .i64 1) true).run Try.prog w = .ok (.tuple #[fnV P 43, .bool true]) w := by
  obtain ⟨v, ps, h1, h2⟩ := look_of h (k := 1) (by decide)
  rw [h1, (fnR_inv (n := 1) h2).1 rfl]; rfl
theorem look2 {M P : Nat} {w : World} (h : Kinds M P w) : (Instr.lookup 74 (.map (some M)) (.int .i64 2) true).run Try.prog w = .ok (.tuple #[fnV P 44, .bool true]) w := by
  obtain ⟨v, ps, h1, h2⟩ := look_of h (k := 2) (by decide)
  rw [h1, (fnR_inv (n := 2) h2).2.1 rfl]; rfl
theorem look3 {M P : Nat} {w : World} (h : Kinds M P w) : (Instr.lookup 74 (.map (some M)) (.int .i64 3) true).run Try.prog w = .ok (.tuple #[fnV P 45, .bool true]) w := by
  obtain ⟨v, ps, h1, h2⟩ := look_of h (k := 3) (by decide)
  rw [h1, (fnR_inv (n := 3) h2).2.2.1 rfl]; rfl
theorem look4 {M P : Nat} {w : World} (h : Kinds M P w) : (Instr.lookup 74 (.map (some M)) (.int .i64 4) true).run Try.prog w = .ok (.tuple #[fnV P 46, .bool true]) w := by
  obtain ⟨v, ps, h1, h2⟩ := look_of h (k := 4) (by decide)
  rw [h1, (fnR_inv (n := 4) h2).2.2.2.1 rfl]; rfl
theorem look0 {M P : Nat} {w : World} (h : Kinds M P w) {k : Int} (hk : (Lit.int .i64 k).wf = true) (h1 : k ≠ 1) (h2 : k ≠ 2) (h3 : k ≠ 3) (h4 : k ≠ 4) : (Instr.lookup 74 (.map (some M)) (.int .i64 k) true).run Try.prog w = .ok (.tuple #[.nilFunc, .bool false]) w := by
  obtain ⟨v, ps, g1, g2⟩ := look_of h hk
  have e1 : Maps.has D4 (.int .i64 k) = false := by rw [D4_is]; simp [Maps.has, Lit.sameKey]; omega
  have e2 : D4.atKey (.int .i64 k) (.lit (.int .i64 0)) = .lit (.int .i64 0) := by
    rw [D4_is]; simp [DataW.atKey, List.find?, Lit.sameKey, Ne.symm h1, Ne.symm h2, Ne.symm h3, Ne.symm h4]
  rw [e2] at g2
  rw [g1, e1, (fnR_inv (n := 0) g2).2.2.2.2 rfl]
end Go.Proofs.Ytmjjbnjedafdaaa
