/-
  The plain answers of the layer admit: functions of numbers, no program in sight.
-/
namespace Go.Proofs.Ytohlaginanbclaa

def CfgOk (C N S K Q : Int) : Prop := (8 ≤ C ∧ C ≤ 64) ∧ (7 ≤ N ∧ N ≤ 24) ∧ (4 ≤ S ∧ S ≤ 64) ∧ (1 ≤ K ∧ K ≤ 8) ∧ (2 ≤ Q ∧ Q ≤ 16)
def OccOk (C N S o : Int) : Prop := 0 ≤ o ∧ o ≤ N * C + S
def StOk (C N S o l : Int) : Prop := (0 ≤ o ∧ o ≤ N * C + S) ∧ 0 ≤ l ∧ l ≤ S ∧ S ≤ o + l
def cfgB (C N S K Q : Int) : Bool := decide ((8 ≤ C ∧ C ≤ 64) ∧ (7 ≤ N ∧ N ≤ 24) ∧ (4 ≤ S ∧ S ≤ 64) ∧ (1 ≤ K ∧ K ≤ 8) ∧ (2 ≤ Q ∧ Q ≤ 16))
def occB (C N S o : Int) : Bool := decide (0 ≤ o ∧ o ≤ N * C + S)
def stB (C N S o l : Int) : Bool := decide ((0 ≤ o ∧ o ≤ N * C + S) ∧ 0 ≤ l ∧ l ≤ S ∧ S ≤ o + l)
theorem cfgB_true {C N S K Q : Int} : cfgB C N S K Q = true ↔ CfgOk C N S K Q := by unfold cfgB CfgOk; exact decide_eq_true_iff
theorem occB_true {C N S o : Int} : occB C N S o = true ↔ OccOk C N S o := by unfold occB OccOk; exact decide_eq_true_iff
theorem stB_true {C N S o l : Int} : stB C N S o l = true ↔ StOk C N S o l := by unfold stB StOk; exact decide_eq_true_iff
theorem cfgB_false {C N S K Q : Int} : cfgB C N S K Q = false ↔ ¬ CfgOk C N S K Q := by rw [← cfgB_true]; simp
theorem occB_false {C N S o : Int} : occB C N S o = false ↔ ¬ OccOk C N S o := by rw [← occB_true]; simp
theorem stB_false {C N S o l : Int} : stB C N S o l = false ↔ ¬ StOk C N S o l := by rw [← stB_true]; simp

/-- The numbers of cars and their words, multiplied: bounds for omega. -/
theorem prod_bounds {C N : Int} (h1 : 8 ≤ C) (h2 : C ≤ 64) (h3 : 7 ≤ N) (h4 : N ≤ 24) : 56 ≤ N * C ∧ N * C ≤ 1536 := by
  constructor
  · have := Int.mul_le_mul h3 h1 (by omega) (by omega); omega
  · have := Int.mul_le_mul h4 h2 (by omega) (by omega); omega
theorem budget_bounds {C N : Int} (h1 : 8 ≤ C) (h2 : C ≤ 64) (h3 : 7 ≤ N) (h4 : N ≤ 24) : 8 ≤ (N - 6) * C ∧ (N - 6) * C ≤ 1152 ∧ (N - 6) * C = N * C - 6 * C := by
  refine ⟨?_, ?_, Int.sub_mul _ _ _⟩
  · have := Int.mul_le_mul (show (1 : Int) ≤ N - 6 by omega) h1 (by omega) (by omega); omega
  · have := Int.mul_le_mul (show N - 6 ≤ 18 by omega) h2 (by omega) (by omega); omega

/-- Largest object, slack. -/
def larg (C S : Int) : Int := min (C / 2) S
def bud (C N : Int) : Int := (N - 6) * C
def slk (C N o : Int) : Int := max (bud C N / 2 - o) 0

/-- The error of a config, of occupied words, of a state, of words that are asked for. -/
def cfgE (C N S K Q : Int) : Int := if cfgB C N S K Q then 0 else 7
def occE (C N S K Q o : Int) : Int := if cfgB C N S K Q && occB C N S o then 0 else 7
def chkE (C N S K Q o l : Int) : Int := if cfgB C N S K Q && stB C N S o l then 0 else 7
def admE (C N S K Q o l n : Int) : Int :=
  if cfgB C N S K Q && stB C N S o l then (if n < 1 then 7 else if larg C S < n then 11 else if l < n ∨ slk C N o < n then 5 else 0) else 7
def admK (C N S K Q o l n : Int) : Int := if admE C N S K Q o l n = 0 then 1 else if admE C N S K Q o l n = 5 then 2 else 0
def admR (C N S K Q o l n : Int) : Int := if admE C N S K Q o l n = 5 then 0 else admE C N S K Q o l n
def mostN (C N S K Q o l : Int) : Int := if cfgB C N S K Q && stB C N S o l then min (min (larg C S) l) (slk C N o) else 0
def slackN (C N S K Q o : Int) : Int := if cfgB C N S K Q && occB C N S o then slk C N o else 0
def carsN (C N S K Q o : Int) : Int := if cfgB C N S K Q && occB C N S o then 2 * o / C + 5 else 0
end Go.Proofs.Ytohlaginanbclaa
