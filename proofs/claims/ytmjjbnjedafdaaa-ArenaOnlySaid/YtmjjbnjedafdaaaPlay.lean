/-
  Walk of the layer arena: the player's play.
-/
import Derived.Test.YtmjjbnjedafdaaaOps
namespace Go.Proofs.Ytmjjbnjedafdaaa
open Go.RowKit

structure PR where
  out : List Int
  got : List Int
  r : Int
  c : Int
  i : Int
  e : Int
/-- What operations do, one behind the other. -/
def plays (out got : List Int) (r c : Int) (i : Nat) : List AOp → PR
  | [] => ⟨out, got, r, c, 0, 0⟩
  | x :: l => if opE out.length x = 0 then plays (opOut out x) (got ++ opGot out x) (r + opR x) (c + opW x) (i + 1) l else ⟨[], [], 0, 0, i, opE out.length x⟩

/-- What a slice of operations reads as. -/
def OpsAt (w : World) (v : Value) (xs : List AOp) : Prop :=
  (∀ x ∈ xs, (Lit.int .i64 x.k).wf = true) ∧
  ((xs = [] ∧ ∃ (a : Option Addr) (cap : Nat), v = .slice a 0 cap) ∨ (0 < xs.length ∧ ∃ lb lo cap : Nat, v = .slice (some ⟨lb, lo, none⟩) xs.length cap ∧ xs.length ≤ cap ∧ lb < w.heap.size ∧ ∀ (i : Nat) (x : AOp), xs[i]? = some x →
    w.cell? ⟨lb, lo + i * 5, none⟩ = some (.int .i64 x.k) ∧ w.cell? ⟨lb, lo + i * 5 + 1, none⟩ = some (.int .i64 x.a) ∧ w.cell? ⟨lb, lo + i * 5 + 2, none⟩ = some (.int .i64 x.b) ∧ w.cell? ⟨lb, lo + i * 5 + 3, none⟩ = some (.int .i64 x.n) ∧ w.cell? ⟨lb, lo + i * 5 + 4, none⟩ = some (.int .u64 x.v)))

theorem opR_bound {len : Nat} {x : AOp} (h : opE len x = 0) (hl : len ≤ 1601) : 0 ≤ opR x ∧ opR x ≤ 1601 ∧ 0 ≤ opW x ∧ opW x ≤ 1601 := by
  unfold opE at h
  unfold opR opW
  by_cases h1 : x.k = 1
  · rw [if_pos h1, if_neg (by omega), if_neg (by omega)]; omega
  · by_cases h2 : x.k = 2
    · rw [if_neg h1, if_neg (by omega), if_pos h2]; omega
    · by_cases h3 : x.k = 3
      · rw [if_neg (by omega), if_pos h3] at h
        rw [if_neg h1, if_pos h3, if_neg h2, if_pos (by omega)]
        have hp : (partB len x.a x.n && partB len x.b x.n) = true := by
          cases hp : (partB len x.a x.n && partB len x.b x.n)
          · rw [hp] at h; exact absurd h (by decide)
          · rfl
        rw [Bool.and_eq_true, partB_true, partB_true] at hp
        omega
      · by_cases h4 : x.k = 4
        · rw [if_neg (by omega), if_neg h3, if_pos h4] at h
          rw [if_neg h1, if_neg h3, if_neg h2, if_pos (by omega)]
          have hp : partB len x.a x.n = true := by
            cases hp : partB len x.a x.n
            · rw [hp] at h; exact absurd h (by decide)
            · rfl
          rw [partB_true] at hp
          omega
        · rw [if_neg h1, if_neg h3, if_neg h2, if_neg (by omega)]; omega
theorem opGot_le (l : List Int) (x : AOp) : (opGot l x).length ≤ 1 := by unfold opGot; split <;> simp

/-- What holds at the head of each round of play. -/
def PlayRel (w0 : World) (P zb base M : Nat) (rest : List Value) (zs : List Int) (xs : List AOp) (i : Value) (wr : World) : Prop :=
  ∃ (k : Nat) (out got : List Int) (gv : Value) (r c : Int), k ≤ xs.length ∧ i = .int .i64 k ∧ Pl w0 P zb base rest out got gv r c wr ∧ Kinds M P wr ∧ out.length = zs.length ∧
    (0 ≤ r ∧ r ≤ 1601 * k) ∧ (0 ≤ c ∧ c ≤ 1601 * k) ∧ got.length ≤ k ∧ plays zs [] 0 0 0 xs = plays out got r c k (xs.drop k)

/-- How play ends. -/
def Played (w0 : World) (P zb : Nat) (rest : List Value) (R : PR) (e : Ending) (w' : World) : Prop :=
  e = .returned (.tuple #[.int .i64 R.i, .int .i64 R.e]) ∧ Below w0.heap.size w0 w' ∧ (R.e = 0 → ∃ base gv, Pl w0 P zb base rest R.out R.got gv R.r R.c w')

theorem drop_some {xs : List AOp} {k : Nat} {x : AOp} (h : xs[k]? = some x) : xs.drop k = x :: xs.drop (k + 1) := by
  obtain ⟨h1, h2⟩ := List.getElem?_eq_some_iff.1 h
  rw [List.drop_eq_getElem_cons h1, h2]
theorem play_stop {w0 w' : World} {P zb : Nat} {rest : List Value} {zs out got : List Int} {r c : Int} {k : Nat} {x : AOp} {xs : List AOp} {e : Int} (hx : xs[k]? = some x) (hp : plays zs [] 0 0 0 xs = plays out got r c k (xs.drop k)) (he : opE out.length x = e) (h0 : e ≠ 0) (hb : Below w0.heap.size w0 w') :
    Played w0 P zb rest (plays zs [] 0 0 0 xs) (.returned (.tuple #[.int .i64 k, .int .i64 e])) w' := by
  subst he
  rw [hp, drop_some hx, plays, if_neg h0]
  exact ⟨rfl, hb, fun h => absurd h h0⟩
theorem play_next {w0 wa wb : World} {P zb base M : Nat} {rest : List Value} {zs out got : List Int} {r c : Int} {k : Nat} {x : AOp} {xs : List AOp} (hx : xs[k]? = some x) (hl : zs.length ≤ 1601) (ho : out.length = zs.length) (hr : 0 ≤ r ∧ r ≤ 1601 * k) (hc : 0 ≤ c ∧ c ≤ 1601 * k) (hg : got.length ≤ k) (hp : plays zs [] 0 0 0 xs = plays out got r c k (xs.drop k)) (he : opE out.length x = 0)
    (hk : Kinds M P wa) (hM : M < base) (hMP : M ≠ P) (hMz : M ≠ zb) (h : OpOk w0 wa P zb base rest out got r c x wb) : PlayRel w0 P zb base M rest zs xs (.int .i64 ((k : Int) + 1)) wb := by
  obtain ⟨gv', hpl, hfr⟩ := h
  have hb := opR_bound he (by omega)
  have h1 := opGot_le out x
  have hlt := (List.getElem?_eq_some_iff.1 hx).1
  refine ⟨k + 1, opOut out x, got ++ opGot out x, gv', r + opR x, c + opW x, by omega, by go_num, hpl, kinds_of hk (hfr M hM hMP hMz), by rw [opOut_length _ _ he]; exact ho, ⟨by omega, by omega⟩, ⟨by omega, by omega⟩, by rw [List.length_append]; omega, ?_⟩
  rw [hp, drop_some hx, plays, if_pos he]

set_option maxRecDepth 100000 in
set_option maxHeartbeats 8000000 in
theorem play_some (w0 w : World) (P zb : Nat) (rest : List Value) (zs : List Int) (xs : List AOp) (lb lo cap : Nat) (h : Pl w0 P zb w.heap.size rest zs [] (.slice none 0 0) 0 0 w) (hl : zs.length ≤ 1601) (hwf : ∀ x ∈ xs, (Lit.int .i64 x.k).wf = true) (hn : xs.length ≤ 500) (hlb : lb < w0.heap.size)
    (hx : ∀ (i : Nat) (x : AOp), xs[i]? = some x → w0.cell? ⟨lb, lo + i * 5, none⟩ = some (.int .i64 x.k) ∧ w0.cell? ⟨lb, lo + i * 5 + 1, none⟩ = some (.int .i64 x.a) ∧ w0.cell? ⟨lb, lo + i * 5 + 2, none⟩ = some (.int .i64 x.b) ∧ w0.cell? ⟨lb, lo + i * 5 + 3, none⟩ = some (.int .i64 x.n) ∧ w0.cell? ⟨lb, lo + i * 5 + 4, none⟩ = some (.int .u64 x.v)) :
    Calls Try.prog 35 #[.pointer (some ⟨P, 0, none⟩), .slice (some ⟨lb, lo, none⟩) xs.length cap] w (Played w0 P zb rest (plays zs [] 0 0 0 xs)) := by
  have hmm := @run_makeMap Try.prog
  have hmf : ∀ (fn : Fn) (first cap : Array Value) (w : World), (Instr.makeFunc fn first cap).run Try.prog w = .ok (.func fn first cap) w := fun _ _ _ _ => rfl
  obtain ⟨w1, w2, w3, w4, u1, u2, u3, u4, hk, hsz, hbw⟩ := kinds_made w P
  unfold fnV at u1 u2 u3 u4
  have HX := Lib.hid hx
  have HW := Lib.hid hwf
  have HK := Lib.hid hk
  have hP : P < w.heap.size := h.s3
  have hzP : zb < P := h.s2
  have hw0 : w0.heap.size ≤ zb := h.s1
  have HB : Hid (Below w0.heap.size w0 w) := h.bel
  have HL : Hid (Pl w0 P zb w4.heap.size rest zs [] (.slice none 0 0) 0 0 w4) := ⟨(hbw.block P hP).trans h.hp, (hbw.block zb (by omega)).trans h.hz, World.ownsRow_nil _ _ _ _, h.bel.trans (hbw.mono (by omega)), h.s1, h.s2, by omega, Nat.le_refl _⟩
  clear hx hwf hk hbw h
  go_enter Try.func35, Try.ntmps35
  go_wp2_with fail
  clear u1 u2 u3 u4 hmm
  go_loopw [24] (fun i wr => PlayRel w0 P zb w4.heap.size w.heap.size rest zs xs i wr) (fun i _ => xs.length - (intOf i).toNat)
  case atStart => exact ⟨0, zs, [], .slice none 0 0, 0, 0, Nat.zero_le _, rfl, HL.out, HK.out, rfl, by simp, by simp, by simp, by simp⟩
  case round =>
    obtain ⟨k, out, got, gv, r, c, hk, rfl, hpl, hkd, ho, hr, hc, hg, hpp⟩ := hrel
    have HPL := Lib.hid hpl
    have HKD := Lib.hid hkd
    have HO := Lib.hid ho
    have HPP := Lib.hid hpp
    have hol : out.length ≤ 1601 := by omega
    have hbs : w.heap.size < wr.heap.size := by have := hpl.s4; omega
    clear hpl hkd ho hpp HL HK
    by_cases hkl : k < xs.length
    · obtain ⟨x, hxk⟩ : ∃ x, xs[k]? = some x := ⟨xs[k], by simp [hkl]⟩
      have HXK := Lib.hid hxk
      have HWF := Lib.hid (HW.out x (List.mem_of_getElem? hxk))
      obtain ⟨d0, d1, d2, d3, d4⟩ := HX.out k x hxk
      have bw := HPL.out.bel
      have y0 := (bw.cell (p := ⟨lb, lo + k * 5, none⟩) hlb).trans d0
      have y1 := (bw.cell (p := ⟨lb, lo + k * 5 + 1, none⟩) hlb).trans d1
      have y2 := (bw.cell (p := ⟨lb, lo + k * 5 + 2, none⟩) hlb).trans d2
      have y3 := (bw.cell (p := ⟨lb, lo + k * 5 + 3, none⟩) hlb).trans d3
      have y4 := (bw.cell (p := ⟨lb, lo + k * 5 + 4, none⟩) hlb).trans d4
      clear hxk d0 d1 d2 d3 d4 bw
      obtain ⟨xk, xa, xb, xn, xv⟩ := x
      simp only at y0 y1 y2 y3 y4
      by_cases k1 : xk = 1
      · subst k1
        have hlk : ∀ ob : Obj, (Instr.lookup 74 (.map (some w.heap.size)) (.int .i64 1) true).run Try.prog (wr.alloc ob) = .ok (.tuple #[.func (.func 43) #[.pointer (some ⟨P, 0, none⟩)] #[], .bool true]) (wr.alloc ob) := fun ob => look1 (kinds_of HKD.out (Below.heap_alloc wr ob _ hbs))
        have GA := Lib.hid (pf_alloc (pf_start HPL.out) (.cells #[.int .i64 1, .int .i64 xa, .int .i64 xb, .int .i64 xn, .int .u64 xv] 35))
        have GK := Lib.hid (kinds_of HKD.out (Below.heap_alloc wr (.cells #[.int .i64 1, .int .i64 xa, .int .i64 xb, .int .i64 xn, .int .u64 xv] 35) _ hbs))
        by_cases he : opE out.length ⟨1, xa, xb, xn, xv⟩ = 0
        · have HE := Lib.hid he
          clear he
          go_wp2_with fail
          have q := do_ok w0 _ P zb _ rest out got gv r c ⟨1, xa, xb, xn, xv⟩ GA.out.1 hol (by simp) HE.out (by omega) (by omega) (by omega) (by omega) (by omega)
          refine (show Calls Try.prog 43 #[.pointer (some ⟨P, 0, none⟩), .agg #[.int .i64 1, .int .i64 xa, .int .i64 xb, .int .i64 xn, .int .u64 xv]] _ _ from q).mono ?_
          rintro e w5 ⟨rfl, hdo⟩
          have HD := Lib.hid hdo
          clear hdo q
          go_wp2
          exact ⟨play_next HXK.out hl HO.out hr hc hg HPP.out HE.out GK.out hsz (by omega) (by omega) HD.out, by simp [intOf]; omega⟩
        · obtain ⟨he7, q⟩ := do_err w0 (wr.alloc (.cells #[.int .i64 1, .int .i64 xa, .int .i64 xb, .int .i64 xn, .int .u64 xv] 35)) P zb _ rest out got gv r c ⟨1, xa, xb, xn, xv⟩ GA.out.1 hol (by simp) he
          have HE := Lib.hid he7
          have QQ := Lib.hid q
          clear he he7 q
          go_wp2_with fail
          refine (show Calls Try.prog 43 #[.pointer (some ⟨P, 0, none⟩), .agg #[.int .i64 1, .int .i64 xa, .int .i64 xb, .int .i64 xn, .int .u64 xv]] _ _ from QQ.out).mono ?_
          rintro e w5 ⟨rfl, hdo⟩
          have HD := Lib.hid hdo
          clear hdo
          go_wp2
          go_ret2
          exact play_stop HXK.out HPP.out HE.out (by decide) HD.out.1.bel
      · by_cases k2 : xk = 2
        · subst k2
          have hlk : ∀ ob : Obj, (Instr.lookup 74 (.map (some w.heap.size)) (.int .i64 2) true).run Try.prog (wr.alloc ob) = .ok (.tuple #[.func (.func 44) #[.pointer (some ⟨P, 0, none⟩)] #[], .bool true]) (wr.alloc ob) := fun ob => look2 (kinds_of HKD.out (Below.heap_alloc wr ob _ hbs))
          have GA := Lib.hid (pf_alloc (pf_start HPL.out) (.cells #[.int .i64 2, .int .i64 xa, .int .i64 xb, .int .i64 xn, .int .u64 xv] 35))
          have GK := Lib.hid (kinds_of HKD.out (Below.heap_alloc wr (.cells #[.int .i64 2, .int .i64 xa, .int .i64 xb, .int .i64 xn, .int .u64 xv] 35) _ hbs))
          by_cases he : opE out.length ⟨2, xa, xb, xn, xv⟩ = 0
          · have HE := Lib.hid he
            clear he
            go_wp2_with fail
            have q := do_ok w0 _ P zb _ rest out got gv r c ⟨2, xa, xb, xn, xv⟩ GA.out.1 hol (by simp) HE.out (by omega) (by omega) (by omega) (by omega) (by omega)
            refine (show Calls Try.prog 44 #[.pointer (some ⟨P, 0, none⟩), .agg #[.int .i64 2, .int .i64 xa, .int .i64 xb, .int .i64 xn, .int .u64 xv]] _ _ from q).mono ?_
            rintro e w5 ⟨rfl, hdo⟩
            have HD := Lib.hid hdo
            clear hdo q
            go_wp2
            exact ⟨play_next HXK.out hl HO.out hr hc hg HPP.out HE.out GK.out hsz (by omega) (by omega) HD.out, by simp [intOf]; omega⟩
          · obtain ⟨he7, q⟩ := do_err w0 (wr.alloc (.cells #[.int .i64 2, .int .i64 xa, .int .i64 xb, .int .i64 xn, .int .u64 xv] 35)) P zb _ rest out got gv r c ⟨2, xa, xb, xn, xv⟩ GA.out.1 hol (by simp) he
            have HE := Lib.hid he7
            have QQ := Lib.hid q
            clear he he7 q
            go_wp2_with fail
            refine (show Calls Try.prog 44 #[.pointer (some ⟨P, 0, none⟩), .agg #[.int .i64 2, .int .i64 xa, .int .i64 xb, .int .i64 xn, .int .u64 xv]] _ _ from QQ.out).mono ?_
            rintro e w5 ⟨rfl, hdo⟩
            have HD := Lib.hid hdo
            clear hdo
            go_wp2
            go_ret2
            exact play_stop HXK.out HPP.out HE.out (by decide) HD.out.1.bel
        · by_cases k3 : xk = 3
          · subst k3
            have hlk : ∀ ob : Obj, (Instr.lookup 74 (.map (some w.heap.size)) (.int .i64 3) true).run Try.prog (wr.alloc ob) = .ok (.tuple #[.func (.func 45) #[.pointer (some ⟨P, 0, none⟩)] #[], .bool true]) (wr.alloc ob) := fun ob => look3 (kinds_of HKD.out (Below.heap_alloc wr ob _ hbs))
            have GA := Lib.hid (pf_alloc (pf_start HPL.out) (.cells #[.int .i64 3, .int .i64 xa, .int .i64 xb, .int .i64 xn, .int .u64 xv] 35))
            have GK := Lib.hid (kinds_of HKD.out (Below.heap_alloc wr (.cells #[.int .i64 3, .int .i64 xa, .int .i64 xb, .int .i64 xn, .int .u64 xv] 35) _ hbs))
            by_cases he : opE out.length ⟨3, xa, xb, xn, xv⟩ = 0
            · have HE := Lib.hid he
              clear he
              go_wp2_with fail
              have q := do_ok w0 _ P zb _ rest out got gv r c ⟨3, xa, xb, xn, xv⟩ GA.out.1 hol (by simp) HE.out (by omega) (by omega) (by omega) (by omega) (by omega)
              refine (show Calls Try.prog 45 #[.pointer (some ⟨P, 0, none⟩), .agg #[.int .i64 3, .int .i64 xa, .int .i64 xb, .int .i64 xn, .int .u64 xv]] _ _ from q).mono ?_
              rintro e w5 ⟨rfl, hdo⟩
              have HD := Lib.hid hdo
              clear hdo q
              go_wp2
              exact ⟨play_next HXK.out hl HO.out hr hc hg HPP.out HE.out GK.out hsz (by omega) (by omega) HD.out, by simp [intOf]; omega⟩
            · obtain ⟨he7, q⟩ := do_err w0 (wr.alloc (.cells #[.int .i64 3, .int .i64 xa, .int .i64 xb, .int .i64 xn, .int .u64 xv] 35)) P zb _ rest out got gv r c ⟨3, xa, xb, xn, xv⟩ GA.out.1 hol (by simp) he
              have HE := Lib.hid he7
              have QQ := Lib.hid q
              clear he he7 q
              go_wp2_with fail
              refine (show Calls Try.prog 45 #[.pointer (some ⟨P, 0, none⟩), .agg #[.int .i64 3, .int .i64 xa, .int .i64 xb, .int .i64 xn, .int .u64 xv]] _ _ from QQ.out).mono ?_
              rintro e w5 ⟨rfl, hdo⟩
              have HD := Lib.hid hdo
              clear hdo
              go_wp2
              go_ret2
              exact play_stop HXK.out HPP.out HE.out (by decide) HD.out.1.bel
          · by_cases k4 : xk = 4
            · subst k4
              have hlk : ∀ ob : Obj, (Instr.lookup 74 (.map (some w.heap.size)) (.int .i64 4) true).run Try.prog (wr.alloc ob) = .ok (.tuple #[.func (.func 46) #[.pointer (some ⟨P, 0, none⟩)] #[], .bool true]) (wr.alloc ob) := fun ob => look4 (kinds_of HKD.out (Below.heap_alloc wr ob _ hbs))
              have GA := Lib.hid (pf_alloc (pf_start HPL.out) (.cells #[.int .i64 4, .int .i64 xa, .int .i64 xb, .int .i64 xn, .int .u64 xv] 35))
              have GK := Lib.hid (kinds_of HKD.out (Below.heap_alloc wr (.cells #[.int .i64 4, .int .i64 xa, .int .i64 xb, .int .i64 xn, .int .u64 xv] 35) _ hbs))
              by_cases he : opE out.length ⟨4, xa, xb, xn, xv⟩ = 0
              · have HE := Lib.hid he
                clear he
                go_wp2_with fail
                have q := do_ok w0 _ P zb _ rest out got gv r c ⟨4, xa, xb, xn, xv⟩ GA.out.1 hol (by simp) HE.out (by omega) (by omega) (by omega) (by omega) (by omega)
                refine (show Calls Try.prog 46 #[.pointer (some ⟨P, 0, none⟩), .agg #[.int .i64 4, .int .i64 xa, .int .i64 xb, .int .i64 xn, .int .u64 xv]] _ _ from q).mono ?_
                rintro e w5 ⟨rfl, hdo⟩
                have HD := Lib.hid hdo
                clear hdo q
                go_wp2
                exact ⟨play_next HXK.out hl HO.out hr hc hg HPP.out HE.out GK.out hsz (by omega) (by omega) HD.out, by simp [intOf]; omega⟩
              · obtain ⟨he7, q⟩ := do_err w0 (wr.alloc (.cells #[.int .i64 4, .int .i64 xa, .int .i64 xb, .int .i64 xn, .int .u64 xv] 35)) P zb _ rest out got gv r c ⟨4, xa, xb, xn, xv⟩ GA.out.1 hol (by simp) he
                have HE := Lib.hid he7
                have QQ := Lib.hid q
                clear he he7 q
                go_wp2_with fail
                refine (show Calls Try.prog 46 #[.pointer (some ⟨P, 0, none⟩), .agg #[.int .i64 4, .int .i64 xa, .int .i64 xb, .int .i64 xn, .int .u64 xv]] _ _ from QQ.out).mono ?_
                rintro e w5 ⟨rfl, hdo⟩
                have HD := Lib.hid hdo
                clear hdo
                go_wp2
                go_ret2
                exact play_stop HXK.out HPP.out HE.out (by decide) HD.out.1.bel
            · have hlk : ∀ ob : Obj, (Instr.lookup 74 (.map (some w.heap.size)) (.int .i64 xk) true).run Try.prog (wr.alloc ob) = .ok (.tuple #[.nilFunc, .bool false]) (wr.alloc ob) := fun ob => look0 (kinds_of HKD.out (Below.heap_alloc wr ob _ hbs)) HWF.out k1 k2 k3 k4
              have HE : Hid (opE out.length ⟨xk, xa, xb, xn, xv⟩ = 2) := by
                show opE out.length ⟨xk, xa, xb, xn, xv⟩ = 2
                unfold opE
                rw [if_neg (by simp only; omega), if_neg (by simp only; omega), if_neg (by simp only; omega)]
              clear k1 k2 k3 k4
              go_wp2
              go_ret2
              exact play_stop HXK.out HPP.out HE.out (by decide) ((below_new (HPL.out.bel) (by omega) _))
    · have HKE : Hid (k = xs.length) := (by omega : k = xs.length)
      go_wp2
      go_ret2
      have q : plays zs [] 0 0 0 xs = ⟨out, got, r, c, 0, 0⟩ := by rw [HPP.out, HKE.out, List.drop_of_length_le (Nat.le_refl _)]; rfl
      rw [q]
      exact ⟨rfl, HPL.out.bel, fun _ => ⟨_, gv, HPL.out⟩⟩
end Go.Proofs.Ytmjjbnjedafdaaa
