/-
  Walks of the layer arena: play of no operation; slices.Clone; Play.
-/
import Derived.Test.YtmjjbnjedafdaaaPlay
import Derived.RegionTactic
import Derived.StillTailTactics
namespace Go.Proofs.Ytmjjbnjedafdaaa
open Go.RowKit

set_option maxRecDepth 100000 in
set_option maxHeartbeats 2000000 in
theorem play_none (w0 w : World) (P zb : Nat) (rest : List Value) (zs : List Int) (a : Option Addr) (cap : Nat) (h : Pl w0 P zb w.heap.size rest zs [] (.slice none 0 0) 0 0 w) :
    Calls Try.prog 35 #[.pointer (some ⟨P, 0, none⟩), .slice a 0 cap] w (Played w0 P zb rest (plays zs [] 0 0 0 [])) := by
  have hmm := @run_makeMap Try.prog
  have hmf : ∀ (fn : Fn) (first cap : Array Value) (w : World), (Instr.makeFunc fn first cap).run Try.prog w = .ok (.func fn first cap) w := fun _ _ _ _ => rfl
  obtain ⟨w1, w2, w3, w4, u1, u2, u3, u4, hk, hsz, hbw⟩ := kinds_made w P
  unfold fnV at u1 u2 u3 u4
  have hP : P < w.heap.size := h.s3
  have hzP : zb < P := h.s2
  have hw0 : w0.heap.size ≤ zb := h.s1
  have HL : Hid (Pl w0 P zb w4.heap.size rest zs [] (.slice none 0 0) 0 0 w4) := ⟨(hbw.block P hP).trans h.hp, (hbw.block zb (by omega)).trans h.hz, World.ownsRow_nil _ _ _ _, h.bel.trans (hbw.mono (by omega)), h.s1, h.s2, by omega, Nat.le_refl _⟩
  clear hk hbw h
  go_enter Try.func35, Try.ntmps35
  go_wp2_with fail
  clear u1 u2 u3 u4 hmm
  refine wp_loop_rounds 1 ?_
  rw [rounds_succ]
  go_wp2
  go_ret2
  exact ⟨rfl, HL.out.bel, fun _ => ⟨_, _, HL.out⟩⟩

theorem play_any (w0 w : World) (P zb : Nat) (rest : List Value) (zs : List Int) (xs : List AOp) (v : Value) (h : Pl w0 P zb w.heap.size rest zs [] (.slice none 0 0) 0 0 w) (hl : zs.length ≤ 1601) (hv : OpsAt w0 v xs) (hn : xs.length ≤ 500) :
    Calls Try.prog 35 #[.pointer (some ⟨P, 0, none⟩), v] w (Played w0 P zb rest (plays zs [] 0 0 0 xs)) := by
  obtain ⟨hwf, ⟨rfl, a, cap, rfl⟩ | ⟨_, lb, lo, cap, rfl, _, hlb, hx⟩⟩ := hv
  · exact play_none w0 w P zb rest zs a cap h
  · exact play_some w0 w P zb rest zs xs lb lo cap h hl hwf hn hlb hx

def Own (w : World) (v : Value) (l : List Int) (w' : World) : Prop := w'.ownsRow w.heap.size 32 1 v l.length (us l)

/-- What Clone hands back. -/
def Cloned (zs : List Int) (w : World) (e : Ending) (w' : World) : Prop := ∃ (g : Nat) (rest : List Value), e = .returned (.slice (some ⟨g, 0, none⟩) zs.length (zs.length + rest.length)) ∧ w.heap.size ≤ g ∧ g < w'.heap.size ∧ zs.length + rest.length ≤ maxLen ∧ w'.heap[g]? = some (.cells (us zs ++ rest).toArray 32 (0, 0)) ∧ Below w.heap.size w w'
theorem cloned_of {zs : List Int} {w w' : World} {v : Value} (h0 : 0 < zs.length) (h : w'.ownsRow w.heap.size 32 1 v zs.length (us zs)) (hb : Below w.heap.size w w') : Cloned zs w (.returned v) w' := by
  obtain ⟨h1, ⟨rfl, h2⟩ | ⟨g, cap, cur, rfl, hg, hh, hc, hm, hs, ht⟩⟩ := h
  · omega
  · rw [Nat.mul_one] at ht hs
    have hcur : cur.toList = us zs ++ cur.toList.drop zs.length := by rw [← ht, List.take_append_drop]
    have hlen : zs.length + (cur.toList.drop zs.length).length = cap := by rw [List.length_drop]; have := @Array.length_toList _ cur; omega
    refine ⟨g, cur.toList.drop zs.length, by rw [hlen], hg, lt_of_block hh, by rw [hlen]; exact hm, ?_, hb⟩
    rw [← hcur]; exact hh

set_option maxHeartbeats 1000000 in
theorem clone_some (zs : List Int) (zb off cap : Nat) (w : World) (h0 : 0 < zs.length) (hl : zs.length ≤ 100000) (hz : zb < w.heap.size) (hc : ∀ i : Nat, i < zs.length → w.cell? ⟨zb, off + i, none⟩ = some (.int .u64 (zs.getD i 0))) :
    Calls Try.prog 34 #[.slice (some ⟨zb, off, none⟩) zs.length cap] w (Cloned zs w) := by
  obtain ⟨i0, hi0, hz0, hz1, hz2⟩ := info_parts info32
  have HC := Lib.hid hc
  have hm : 0 + zs.length ≤ maxLen := by unfold maxLen; omega
  clear hc
  have hnil : ∀ (w : World) (a : Addr) (n c : Nat), (binOp .eql 22 (.slice (some a) n c) (.slice none 0 0)).run Try.prog w = .ok (.bool false) w := fun w a n c => Lib.run_eql_slice_nil w 22 32 (some a) n c 0 0 Try.underlying22
  go_enter Try.func34, Try.ntmps34
  go_wp2_with (at_builtin; refine wpList_append_own _ rfl _ _ 22 rfl w.heap.size 32 i0 (.int .u64 0) 1 8 Try.underlying22 hi0 hz0 hz1 hz2 rfl (by decide) _ 0 [] rfl ?c0 ⟨zb, off, none⟩ zs.length cap (us zs) rfl ?c1 ?c2 ?c3 hm ?c4 ?c5 ?_)
  case c0 => exact ⟨rfl, .inr ⟨w.heap.size, 0, #[], rfl, Nat.le_refl _, (MapKept.heap_alloc w _).1, Nat.le_refl _, Nat.zero_le _, rfl, rfl⟩⟩
  case c1 => rw [us_length, Nat.mul_one]
  case c2 =>
    intro j u hj
    have hj' : j < zs.length := by have := (List.getElem?_eq_some_iff.1 hj).1; rw [us_length] at this; exact this
    rw [us_get _ _ hj'] at hj
    rw [Go.WideShapes.add_plain, World.cell?_alloc_past _ _ _ hz, HC.out j hj']; exact hj
  case c3 =>
    intro u hu
    obtain ⟨x, _, rfl⟩ := List.mem_map.1 hu; rfl
  case c4 => omega
  case c5 => simp
  intro v' w1 hown hgrow _
  have HO := Lib.hid hown
  have HG := Lib.hid hgrow
  clear hown hgrow
  go_wp2
  go_ret
  have h1 := HO.out
  exact cloned_of h0 h1 ((below_new (Below.refl _ _) (Nat.le_refl _) _).grown HG.out (by simp) (by simp [Value.ownBlock]))

/-- What Play returns. -/
def playR (zs : List Int) (xs : List AOp) : PR := if chkA zs ≠ 0 then ⟨[], [], 0, 0, 0, chkA zs⟩ else if 500 < xs.length then ⟨[], [], 0, 0, -1, 3⟩ else plays zs [] 0 0 0 xs
def PlayPost (R : PR) (w : World) (e : Ending) (w' : World) : Prop :=
  ∃ v gv : Value, e = .returned (.tuple #[v, gv, .agg #[.int .i64 R.r, .int .i64 R.c], .int .i64 R.i, .int .i64 R.e]) ∧ Own w v R.out w' ∧ Own w gv R.got w' ∧ Below w.heap.size w w'
theorem own_nil (w w' : World) : Own w (.slice none 0 0) [] w' := World.ownsRow_nil _ _ _ _

set_option maxHeartbeats 1000000 in
theorem play_check (zs : List Int) (a : Option Addr) (cap : Nat) (l : Value) (x : Int) (w : World) (hx : x ≠ 0) (hc : ∀ W : World, Below w.heap.size w W → Calls Try.prog 29 #[.slice a zs.length cap] W fun e w' => e = .returned (.int .i64 x) ∧ W = w') :
    Calls Try.prog 11 #[.slice a zs.length cap, l] w (PlayPost ⟨[], [], 0, 0, 0, x⟩ w) := by
  have hx' : (x != 0) = true := by simpa using hx
  have HC := Lib.hid hc
  clear hc hx
  go_enter Try.func11, Try.ntmps11
  go_wp2_with (first | (go_at_call 29; refine (HC.out _ (below_new (Below.refl _ _) (Nat.le_refl _) _)).mono ?_; rintro e w1 ⟨rfl, rfl⟩))
  refine bodyPost_ret (v := .tuple #[.slice none 0 0, .slice none 0 0, .agg #[.int .i64 0, .int .i64 0], .int .i64 0, .int .i64 x]) (by simp [results, Try.results11, go_sem]) rfl ⟨_, _, rfl, own_nil _ _, own_nil _ _, ?_⟩
  (repeat (first | exact Below.refl _ _ | (refine below_new ?_ (Nat.le_refl _) _) | (refine below_drewN ?_ _) | (refine Below.drew ?_) | (refine below_call (by assumption) ?_ (Nat.le_refl _)) | (refine below_set ?_ (by simp) _)))
set_option maxHeartbeats 1000000 in
theorem play_long (zs : List Int) (a b : Option Addr) (cap n m : Nat) (w : World) (hn : 500 < n) (hc : ∀ W : World, Below w.heap.size w W → Calls Try.prog 29 #[.slice a zs.length cap] W fun e w' => e = .returned (.int .i64 0) ∧ W = w') :
    Calls Try.prog 11 #[.slice a zs.length cap, .slice b n m] w (PlayPost ⟨[], [], 0, 0, -1, 3⟩ w) := by
  have HC := Lib.hid hc
  clear hc
  go_enter Try.func11, Try.ntmps11
  go_wp2_with (first | (go_at_call 29; refine (HC.out _ (below_new (Below.refl _ _) (Nat.le_refl _) _)).mono ?_; rintro e w1 ⟨rfl, rfl⟩))
  refine bodyPost_ret (v := .tuple #[.slice none 0 0, .slice none 0 0, .agg #[.int .i64 0, .int .i64 0], .int .i64 (-1), .int .i64 3]) (by simp [results, Try.results11, go_sem]) rfl ⟨_, _, rfl, own_nil _ _, own_nil _ _, ?_⟩
  (repeat (first | exact Below.refl _ _ | (refine below_new ?_ (Nat.le_refl _) _) | (refine below_drewN ?_ _) | (refine Below.drew ?_) | (refine below_call (by assumption) ?_ (Nat.le_refl _)) | (refine below_set ?_ (by simp) _)))

theorem opsAt_below {w w1 : World} {v : Value} {xs : List AOp} (hb : Below w.heap.size w w1) (h : OpsAt w v xs) : OpsAt w1 v xs := by
  obtain ⟨hwf, h⟩ := h
  refine ⟨hwf, ?_⟩
  rcases h with h | ⟨h0, lb, lo, cap, rfl, hc, hlb, hx⟩
  · exact .inl h
  · refine .inr ⟨h0, lb, lo, cap, rfl, hc, Nat.lt_of_lt_of_le hlb hb.size, fun i x hi => ?_⟩
    obtain ⟨d0, d1, d2, d3, d4⟩ := hx i x hi
    exact ⟨(hb.cell (p := ⟨lb, lo + i * 5, none⟩) hlb).trans d0, (hb.cell (p := ⟨lb, lo + i * 5 + 1, none⟩) hlb).trans d1, (hb.cell (p := ⟨lb, lo + i * 5 + 2, none⟩) hlb).trans d2, (hb.cell (p := ⟨lb, lo + i * 5 + 3, none⟩) hlb).trans d3, (hb.cell (p := ⟨lb, lo + i * 5 + 4, none⟩) hlb).trans d4⟩

theorem opE_cases (len : Nat) (x : AOp) : opE len x = 0 ∨ opE len x = 7 ∨ opE len x = 2 := by
  unfold opE
  split
  · split <;> simp
  · split
    · split <;> simp
    · split
      · split <;> simp
      · simp
theorem plays_facts (xs : List AOp) : ∀ (out got : List Int) (r c : Int) (i : Nat), ((plays out got r c i xs).e = 0 → (plays out got r c i xs).i = 0) ∧ ((plays out got r c i xs).e ≠ 0 → (plays out got r c i xs).out = [] ∧ (plays out got r c i xs).got = [] ∧ (plays out got r c i xs).r = 0 ∧ (plays out got r c i xs).c = 0) := by
  induction xs with
  | nil => intro out got r c i; exact ⟨fun _ => rfl, fun h => absurd rfl h⟩
  | cons x l ih =>
    intro out got r c i
    unfold plays
    by_cases he : opE out.length x = 0
    · rw [if_pos he]; exact ih _ _ _ _ _
    · rw [if_neg he]; exact ⟨fun h => absurd h he, fun _ => ⟨rfl, rfl, rfl, rfl⟩⟩

theorem plays_length (xs : List AOp) : ∀ (out got : List Int) (r c : Int) (i : Nat), (plays out got r c i xs).e = 0 → (plays out got r c i xs).out.length = out.length := by
  induction xs with
  | nil => intro out got r c i _; rfl
  | cons x l ih =>
    intro out got r c i
    unfold plays
    by_cases he : opE out.length x = 0
    · rw [if_pos he]; intro h; rw [ih _ _ _ _ _ h, opOut_length _ _ he]
    · rw [if_neg he]; intro h; exact absurd h he

theorem own_of {w0 w w' : World} {P zb base : Nat} {rest : List Value} {out got : List Int} {gv : Value} {r c : Int} (h : Pl w0 P zb base rest out got gv r c w') (hw : w.heap.size ≤ w0.heap.size) (hm : out.length + rest.length ≤ maxLen) : Own w (.slice (some ⟨zb, 0, none⟩) out.length (out.length + rest.length)) out w' ∧ Own w gv got w' := by
  obtain ⟨hp, hz, own, bel, s1, s2, s3, s4⟩ := h
  constructor
  · refine ⟨by rw [us_length, Nat.mul_one], .inr ⟨zb, _, (us out ++ rest).toArray, rfl, by omega, hz, by omega, hm, by simp [us_length], ?_⟩⟩
    rw [Nat.mul_one, ← us_length out, List.take_left]
  · obtain ⟨h1, h2⟩ := own
    refine ⟨h1, ?_⟩
    rcases h2 with h2 | ⟨g, cap, cur, e1, e2, e3⟩
    · exact .inl h2
    · exact .inr ⟨g, cap, cur, e1, by omega, e3⟩
theorem own_set {w w' : World} {v : Value} {l : List Int} {a : Addr} (h : Own w v l w') (ha : v.ownBlock ≠ some a.block) (u : Value) : Own w v l (w'.setCell a u) := ownsRow_setCell_other h ha u

set_option maxHeartbeats 4000000 in
theorem play_good (zs : List Int) (xs : List AOp) (zb off cap : Nat) (la : Option Addr) (lc : Nat) (w : World) (h0 : 0 < zs.length) (hl : zs.length ≤ 1601) (hz : zb < w.heap.size) (hc : ∀ i : Nat, i < zs.length → w.cell? ⟨zb, off + i, none⟩ = some (.int .u64 (zs.getD i 0))) (hx0 : zs.getD 0 0 = 0) (hv : OpsAt w (.slice la xs.length lc) xs) (hn : xs.length ≤ 500) :
    Calls Try.prog 11 #[.slice (some ⟨zb, off, none⟩) zs.length cap, .slice la xs.length lc] w (PlayPost (plays zs [] 0 0 0 xs) w) := by
  have HV := Lib.hid hv
  have HC := Lib.hid hc
  have z0 : w.cell? ⟨zb, off, none⟩ = some (.int .u64 0) := by have := hc 0 h0; rw [hx0] at this; exact this
  have HZ0 := Lib.hid z0
  have hlt : ¬ 500 < xs.length := by omega
  clear hv hc hx0 z0
  have HB : Hid (Below w.heap.size w (w.alloc (.cells #[.int .i64 0, .int .i64 0] 26))) := below_new (Below.refl _ _) (Nat.le_refl _) _
  go_enter Try.func11, Try.ntmps11
  go_wp2_with fail
  have q := check_at zb off zs.length cap 0 (w.alloc (.cells #[.int .i64 0, .int .i64 0] 26)) h0 hl ((HB.out.cell (p := ⟨zb, off, none⟩) hz).trans HZ0.out)
  rw [if_pos rfl] at q
  refine q.mono ?_
  rintro e w1 ⟨rfl, rfl⟩
  clear q
  go_wp2_with fail
  refine (clone_some zs zb off cap _ h0 (by omega) (by simp; omega) (fun i hi => (HB.out.cell (p := ⟨zb, off + i, none⟩) hz).trans (HC.out i hi))).mono ?_
  rintro e w1 ⟨g, rest, rfl, hg, hg1, hmax, hblk, hb1⟩
  have HM := Lib.hid hmax
  have HP : Hid (Pl (w.alloc (.cells #[.int .i64 0, .int .i64 0] 26)) w1.heap.size g (w1.heap.size + 1) rest zs [] (.slice none 0 0) 0 0 (w1.alloc (.cells #[.slice (some ⟨g, 0, none⟩) zs.length (zs.length + rest.length), .slice none 0 0, .int .i64 0, .int .i64 0] 64))) :=
    ⟨(MapKept.heap_alloc w1 _).1, by rw [Below.heap_alloc _ _ _ hg1]; exact hblk, World.ownsRow_nil _ _ _ _, hb1.alloc hb1.size _, hg, hg1, by omega, by simp⟩
  clear hmax hblk hb1
  go_wp2_with fail
  refine (play_any (w.alloc (.cells #[.int .i64 0, .int .i64 0] 26)) _ w1.heap.size g rest zs xs _ (by rw [World.size_alloc]; exact HP.out) hl (opsAt_below HB.out HV.out) hn).mono ?_
  rintro e w2 ⟨rfl, hb2, hpl⟩
  obtain ⟨hf1, hf2⟩ := plays_facts xs zs [] 0 0 0
  have hf3 := plays_length xs zs [] 0 0 0
  generalize plays zs [] 0 0 0 xs = R at *
  have d0 : w2.cell? ⟨w.heap.size, 0, none⟩ = some (.int .i64 0) := (hb2.cell (p := ⟨w.heap.size, 0, none⟩) (by simp)).trans (by simp)
  have d1 : w2.cell? ⟨w.heap.size, 1, none⟩ = some (.int .i64 0) := (hb2.cell (p := ⟨w.heap.size, 1, none⟩) (by simp)).trans (by simp)
  have g0 : w2.frozen? ⟨w.heap.size, 0, none⟩ = false := (hb2.frozen (p := ⟨w.heap.size, 0, none⟩) (by simp)).trans (by simp)
  have g1 : w2.frozen? ⟨w.heap.size, 1, none⟩ = false := (hb2.frozen (p := ⟨w.heap.size, 1, none⟩) (by simp)).trans (by simp)
  have hsz : w.heap.size < w2.heap.size := by have := hb2.size; simp at this; omega
  have HB2 : Hid (Below w.heap.size w w2) := HB.out.trans (hb2.mono (by simp))
  clear hb2 HP
  obtain ⟨out, got, r, c, i, e⟩ := R
  simp only at hf1 hf2 hf3 hpl
  by_cases he : e = 0
  · obtain ⟨base, gv, hq⟩ := hpl he
    have hi := hf1 he
    subst he
    subst hi
    have HQ := Lib.hid hq
    have HLN := Lib.hid (hf3 rfl)
    have OO := Lib.hid (own_of (w := w) hq (by simp) (by rw [HLN.out]; exact HM.out))
    obtain ⟨p0, p1, p2, p3, _, _, _, z1, z2, _, _⟩ := pf_cells (pf_start hq)
    have hne : ¬ w.heap.size = w1.heap.size := by simp at hg; omega
    have hs1 := hq.s1
    have hs2 := hq.s2
    have hs5 : gv.ownBlock ≠ some w.heap.size := fun h8 => by have := (hq.own.lt _ h8).1; have := hq.s3; simp at hs1; omega
    have HS5 := Lib.hid hs5
    clear hpl hf1 hf2 hf3 hq hs5
    go_wp2_with fail
    go_region
    all_goals
      go_wp2
      refine bodyPost_ret (v := .tuple #[.slice (some ⟨g, 0, none⟩) out.length (out.length + rest.length), gv, .agg #[.int .i64 r, .int .i64 c], .int .i64 0, .int .i64 0]) (by simp [results, Try.results11, go_sem, d0, d1]) rfl ⟨_, _, rfl, ?_, ?_, ?_⟩
      · exact own_set (own_set OO.out.1 (by simp [Value.ownBlock]; simp at hs1; omega) _) (by simp [Value.ownBlock]; simp at hs1; omega) _
      · exact own_set (own_set OO.out.2 HS5.out _) HS5.out _
      · exact (below_set (p := ⟨w.heap.size, 1, none⟩) (below_set (p := ⟨w.heap.size, 0, none⟩) HB2.out (Nat.le_refl _) _) (Nat.le_refl _) _).drew
  · obtain ⟨rfl, rfl, rfl, rfl⟩ := hf2 he
    have t1 : (e != 0) = true := by simpa using he
    clear hpl hf1 hf2 hf3
    go_wp2
    refine bodyPost_ret (v := .tuple #[.slice none 0 0, .slice none 0 0, .agg #[.int .i64 0, .int .i64 0], .int .i64 i, .int .i64 e]) (by simp [results, Try.results11, go_sem, d0, d1]) rfl ⟨_, _, rfl, own_nil _ _, own_nil _ _, ?_⟩
    exact below_set (below_set HB2.out (by simp) _) (by simp) _

/-- Play, of any words and operations. -/
theorem play_pub (zs : List Int) (xs : List AOp) (v l : Value) (w : World) (hv : Words w v zs) (hx : OpsAt w l xs) :
    Calls Try.prog 11 #[v, l] w (PlayPost (playR zs xs) w) := by
  have hva : ∃ (a : Option Addr) (cap : Nat), v = .slice a zs.length cap := by
    rcases hv with ⟨rfl, a, cap, rfl⟩ | ⟨_, zb, off, cap, rfl, _⟩
    · exact ⟨a, cap, rfl⟩
    · exact ⟨_, cap, rfl⟩
  have hla : ∃ (a : Option Addr) (cap : Nat), l = .slice a xs.length cap := by
    obtain ⟨_, ⟨rfl, a, cap, rfl⟩ | ⟨_, lb, lo, cap, rfl, _⟩⟩ := hx
    · exact ⟨a, cap, rfl⟩
    · exact ⟨_, cap, rfl⟩
  obtain ⟨a, cap, rfl⟩ := hva
  obtain ⟨la, lc, rfl⟩ := hla
  have hck : ∀ W : World, Below w.heap.size w W → Calls Try.prog 29 #[.slice a zs.length cap] W fun e w' => e = .returned (.int .i64 (chkA zs)) ∧ W = w' := fun W hb => check_any zs _ W (by
    rcases hv with h | ⟨h0, zb, off, cap', e, h1, h2, h3⟩
    · exact .inl h
    · exact .inr ⟨h0, zb, off, cap', e, h1, Nat.lt_of_lt_of_le h2 hb.size, fun i hi => (hb.cell (p := ⟨zb, off + i, none⟩) h2).trans (h3 i hi)⟩)
  unfold playR
  by_cases hc : chkA zs = 0
  · rw [if_neg (by simpa using hc)]
    rw [hc] at hck
    by_cases hn : 500 < xs.length
    · rw [if_pos hn]
      exact play_long zs a la cap _ lc w hn hck
    · rw [if_neg hn]
      rcases hv with ⟨rfl, _⟩ | ⟨h0, zb, off, cap', e, h1, h2, h3⟩
      · exact absurd hc (by decide)
      · simp at e
        obtain ⟨rfl, rfl⟩ := e
        unfold chkA at hc
        have hl : zs.length ≤ 1601 := by
          by_cases h : zs.length < 1 ∨ 1601 < zs.length
          · rw [if_pos h] at hc; omega
          · omega
        rw [if_neg (by omega)] at hc
        have hz : zs.getD 0 0 = 0 := by
          by_cases h : zs.getD 0 0 = 0
          · exact h
          · rw [if_neg h] at hc; omega
        exact play_good zs xs zb off cap la lc w h0 hl h2 h3 hz hx (by omega)
  · rw [if_pos (by simpa using hc)]
    exact play_check zs a cap _ _ w hc hck
end Go.Proofs.Ytmjjbnjedafdaaa
