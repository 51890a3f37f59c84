import Derived.Test.YtkmgbnklfnjfjaaQA
/-! The moves of a row of calls: Log of either kernel. -/
namespace Go.Proofs.Ytkmgbnklfnjfjaa.Ker
open Go.RowKit Go.Maps

theorem good2_0 : Good2 A0 := ⟨fun p hp => (by cases hp), fun i hi => (by cases hi)⟩
theorem good2_after {a : A} (gd : Good a) (g : Good2 a) : ∀ l, Good2 (afterF a l)
  | [] => g
  | c :: l => good2_after (good_doF gd c) (good2_do g gd c) l
def H0 : RG := { tv := .slice none 0 0, pv := .slice none 0 0, mv := .slice none 0 0, qv := fun _ => .slice none 0 0 }
def rz : Array Value := #[.slice none 0 0, .slice none 0 0, .slice none 0 0, .slice none 0 0, .slice none 0 0, .slice none 0 0, .slice none 0 0, .slice none 0 0, .int .i64 0]
theorem rep0 (w : World) : RRep w.heap.size w.heap.size H0 (W A0 []) (w.alloc (.cells rz 63)) :=
  ⟨alloc_new w _, owns_none, owns_none, owns_none, fun _ _ => owns_none, fun _ _ _ _ _ b hb => (by cases hb), Nat.le_refl _⟩
/-- Do of the specification answers as the kernel's. -/
theorem rdo_sim (B xb : Nat) (h : RG) (a : A) (l : List Int) (w : World) (r : RRep B xb h (W a l) w) (hl : l.Perm a.tids) (gd : Good a) (g2 : Good2 a) (hca : 0 ≤ a.calls ∧ a.calls < 100000) (c : C3) (cc cd : Int) :
    Calls Try.prog 26 #[ptr xb, .agg #[.int .i64 c.1, .int .i64 c.2.1, .int .i64 c.2.2, .int .i64 cc, .int .i64 cd]] w fun e w' => e = .returned (.tuple #[.int .i64 (doF a c).1, .int .i64 (doF a c).2.1]) ∧ ∃ h' l', l'.Perm (doF a c).2.2.tids ∧ Left B xb h (W a l) w h' (W (doF a c).2.2 l') w' := by
  obtain ⟨d, x, y⟩ := c
  have hm := gd.mcalls
  refine (rDo_any B xb h (W a l) w r (good_W gd hl) (good2_W g2 hl) (show a.moves.length ≤ 100000 by omega) hca d x y cc cd).mono ?_
  obtain ⟨e1, e2, l', hp, e3⟩ := sim_do gd g2 hl (d, x, y)
  rw [e1, e2, e3]
  rintro e w' ⟨rfl, h', hL⟩
  exact ⟨rfl, h', l', hp, hL⟩
def RLogRel (w : World) (l : List C3) (i : Value) (wr : World) : Prop := ∃ (j : Nat) (h : RG) (l' : List Int), j ≤ l.length ∧ i = .int .i64 j ∧ Below w.heap.size w wr ∧ l'.Perm (afterF A0 (l.take j)).tids ∧ RRep w.heap.size w.heap.size h (W (afterF A0 (l.take j)) l') wr
theorem take_next {l : List C3} {j : Nat} {c : C3} (h : l[j]? = some c) : l.take (j + 1) = l.take j ++ [c] := by
  obtain ⟨hlt, e⟩ := List.getElem?_eq_some_iff.1 h
  rw [List.take_succ_eq_append_getElem hlt, e]

set_option maxHeartbeats 2000000 in
set_option maxRecDepth 100000 in
theorem rlog_any (w : World) (v : Value) (l : List C3) (h : callsAt w v l) (hn : l.length ≤ 1000) :
    Calls Try.prog 15 #[v] w fun e w' => ∃ u, e = .returned (.tuple #[u, .int .i64 0]) ∧ Below w.heap.size w w' ∧ w'.ownsRow w.heap.size 31 4 u (afterF A0 l).moves.length ((afterF A0 l).moves.flatMap mcells) := by
  obtain ⟨va, vc, rfl, hc⟩ := h
  have HC := Lib.hid hc
  have hl : decide ((1000 : Int) < (l.length : Int)) = false := decide_eq_false (by omega)
  have HB := Lib.hid (show Below w.heap.size w (w.alloc (.cells rz 63)) from (Below.refl _ _).alloc (Nat.le_refl _) _)
  have HR := Lib.hid (rep0 w)
  clear hc
  go_enter Try.func15, Try.ntmps15
  go_wp2_with fail
  go_loopw [5] (fun i wr => RLogRel w l i wr) (fun i _ => l.length - (intOf i).toNat)
  case atStart => exact ⟨0, H0, [], Nat.zero_le _, rfl, HB.out, List.Perm.nil, HR.out⟩
  case round =>
    obtain ⟨j, g, l', hj, rfl, hb, hp, hk⟩ := hrel
    have gd : Good (afterF A0 (l.take j)) := good_after good0 _
    have g2 : Good2 (afterF A0 (l.take j)) := good2_after good0 good2_0 _
    have hcl : (afterF A0 (l.take j)).calls = j := by rw [after_calls]; simp [A0]; omega
    by_cases hlt : j < l.length
    · obtain ⟨gb, o, c, cc, cd, rfl, hg, hlc, c0, c1, c2, c3, c4⟩ := HC.out j hlt
      have z0 : wr.cell? ⟨gb, o + j * 5, none⟩ = some (.int .i64 c.1) := (hb.cell (p := ⟨gb, _, none⟩) hg).trans c0
      have z1 : wr.cell? ⟨gb, o + j * 5 + 1, none⟩ = some (.int .i64 c.2.1) := (hb.cell (p := ⟨gb, _, none⟩) hg).trans c1
      have z2 : wr.cell? ⟨gb, o + j * 5 + 2, none⟩ = some (.int .i64 c.2.2) := (hb.cell (p := ⟨gb, _, none⟩) hg).trans c2
      have z3 : wr.cell? ⟨gb, o + j * 5 + 3, none⟩ = some (.int .i64 cc) := (hb.cell (p := ⟨gb, _, none⟩) hg).trans c3
      have z4 : wr.cell? ⟨gb, o + j * 5 + 4, none⟩ = some (.int .i64 cd) := (hb.cell (p := ⟨gb, _, none⟩) hg).trans c4
      have hdd : decide ((j : Int) < (l.length : Int)) = true := by simpa using hlt
      have C26 := Lib.hid (rdo_sim w.heap.size w.heap.size g _ l' _ hk hp gd g2 (by omega) c cc cd)
      have HBR := Lib.hid hb
      have HK := Lib.hid hk
      have HLC := Lib.hid hlc
      clear hb hk hg c0 c1 c2 c3 c4 hlc gd g2 hcl hp
      go_wp2_with (go_at_call 26; (with_reducible refine C26.out.mono ?_); rintro e w3 ⟨rfl, g3, l3, hp3, hL3⟩; have HP3 := Lib.hid hp3; have HL3 := Lib.hid hL3; clear hp3 hL3)
      go_roundw
      case rel =>
        refine ⟨j + 1, g3, l3, by omega, by go_num, HBR.out.trans (HL3.out.low HK.out), ?_⟩
        rw [take_next HLC.out, afterF_append]
        exact ⟨HP3.out, HL3.out.rep⟩
      case measure => simp [intOf]; omega
    · have hjn : j = l.length := by omega
      subst hjn
      rw [List.take_length] at hk
      have hdd : decide ((l.length : Int) < (l.length : Int)) = false := by simp
      have HBR := Lib.hid hb
      have HK := Lib.hid hk
      have k7 := hk.k7
      clear hb hk gd g2 hcl hp
      go_wp2_with fail
      go_ret2
      exact ⟨_, rfl, HBR.out, HK.out.mrow⟩
end Go.Proofs.Ytkmgbnklfnjfjaa.Ker
/-! The moves of a row of calls: Log of the kernel. -/
namespace Go.Proofs.Ytkmgbnklfnjfjaa.Ker
open Go.RowKit Go.Maps

def KLogRel (w : World) (l : List C3) (i : Value) (wr : World) : Prop := ∃ (j : Nat) (g : G), j ≤ l.length ∧ i = .int .i64 j ∧ Below w.heap.size w wr ∧ KRep w.heap.size w.heap.size g (afterF A0 (l.take j)) wr

set_option maxHeartbeats 2000000 in
set_option maxRecDepth 100000 in
theorem klog_any (w : World) (v : Value) (l : List C3) (h : callsAt w v l) (hn : l.length ≤ 1000) :
    Calls Try.prog 14 #[v] w fun e w' => ∃ u, e = .returned (.tuple #[u, .int .i64 0]) ∧ Below w.heap.size w w' ∧ w'.ownsRow w.heap.size 31 4 u (afterF A0 l).moves.length ((afterF A0 l).moves.flatMap mcells) := by
  obtain ⟨va, vc, rfl, hc⟩ := h
  have HC := Lib.hid hc
  have CN := Lib.hid (new_any w)
  have hl : decide ((1000 : Int) < (l.length : Int)) = false := decide_eq_false (by omega)
  clear hc
  go_enter Try.func14, Try.ntmps14
  go_wp2_with (go_at_call 17; (with_reducible refine CN.out.mono ?_); rintro e w1 ⟨rfl, hb, hk⟩; have HB := Lib.hid hb; have HK := Lib.hid hk; clear hb hk)
  go_loopw [13] (fun i wr => KLogRel w l i wr) (fun i _ => l.length - (intOf i).toNat)
  case atStart => exact ⟨0, G0 w.heap.size, Nat.zero_le _, rfl, HB.out, HK.out⟩
  case round =>
    obtain ⟨j, g, hj, rfl, hb, hk⟩ := hrel
    have gd : Good (afterF A0 (l.take j)) := good_after good0 _
    have hcl : (afterF A0 (l.take j)).calls = j := by rw [after_calls]; simp [A0]; omega
    by_cases hlt : j < l.length
    · obtain ⟨gb, o, c, cc, cd, rfl, hg, hlc, c0, c1, c2, c3, c4⟩ := HC.out j hlt
      have z0 : wr.cell? ⟨gb, o + j * 5, none⟩ = some (.int .i64 c.1) := (hb.cell (p := ⟨gb, _, none⟩) hg).trans c0
      have z1 : wr.cell? ⟨gb, o + j * 5 + 1, none⟩ = some (.int .i64 c.2.1) := (hb.cell (p := ⟨gb, _, none⟩) hg).trans c1
      have z2 : wr.cell? ⟨gb, o + j * 5 + 2, none⟩ = some (.int .i64 c.2.2) := (hb.cell (p := ⟨gb, _, none⟩) hg).trans c2
      have z3 : wr.cell? ⟨gb, o + j * 5 + 3, none⟩ = some (.int .i64 cc) := (hb.cell (p := ⟨gb, _, none⟩) hg).trans c3
      have z4 : wr.cell? ⟨gb, o + j * 5 + 4, none⟩ = some (.int .i64 cd) := (hb.cell (p := ⟨gb, _, none⟩) hg).trans c4
      have hdd : decide ((j : Int) < (l.length : Int)) = true := by simpa using hlt
      have hka := hk.keep (w' := wr.alloc (.cells #[.int .i64 c.1, .int .i64 c.2.1, .int .i64 c.2.2, .int .i64 cc, .int .i64 cd] 38)) (fun k hk => Below.heap_alloc wr _ _ hk)
      have C19 := Lib.hid (do_det w.heap.size w.heap.size g _ _ hka gd (by omega) c cc cd)
      have hba : Bel w.heap.size wr (wr.alloc (.cells #[.int .i64 c.1, .int .i64 c.2.1, .int .i64 c.2.2, .int .i64 cc, .int .i64 cd] 38)) := (Bel.refl _ _).alloc hb.size _
      have HBA := Lib.hid hba
      have HBR := Lib.hid hb
      have HLC := Lib.hid hlc
      clear hb hk hka hba hg c0 c1 c2 c3 c4 hlc gd hcl
      go_wp2_with (go_at_call 19; (with_reducible refine C19.out.mono ?_); rintro e w3 ⟨rfl, hb3, g3, h3⟩; have HB3 := Lib.hid (HBA.out.trans hb3); have H3 := Lib.hid h3; clear hb3 h3)
      go_roundw
      case rel =>
        refine ⟨j + 1, g3, by omega, by go_num, HBR.out.trans HB3.out.low, ?_⟩
        rw [take_next HLC.out, afterF_append]
        exact H3.out
      case measure => simp [intOf]; omega
    · have hjn : j = l.length := by omega
      subst hjn
      rw [List.take_length] at hk
      have hdd : decide ((l.length : Int) < (l.length : Int)) = false := by simp
      have HBR := Lib.hid hb
      have HK2 := Lib.hid hk
      have k4 := hk.k4
      clear hb hk gd hcl
      go_wp2_with fail
      go_ret2
      exact ⟨_, rfl, HBR.out, HK2.out.mrow⟩
end Go.Proofs.Ytkmgbnklfnjfjaa.Ker
/-! The specification's Play. -/
namespace Go.Proofs.Ytkmgbnklfnjfjaa.Ker
open Go.RowKit Go.Maps

/-- A value's row is none of the specification's. -/
def Off (xb : Nat) (h : RG) (a : A) (u : Value) : Prop := ∀ b, u.ownBlock = some b → ¬ OwnR xb h a b
theorem left_row {B B' xb n e sz : Nat} {h h' : RG} {a a' : A} {w w' : World} {u : Value} {xs : List Value} (l : Left B xb h a w h' a' w') (ho : w.ownsRow B' e sz u n xs) (hf : Off xb h a u) : w'.ownsRow B' e sz u n xs :=
  own_keep ho (fun g hg hl => l.touch.block g hl (hf g hg))
theorem left_off {B B' xb n e sz : Nat} {h h' : RG} {a a' : A} {w w' : World} {u : Value} {xs : List Value} (l : Left B xb h a w h' a' w') (ho : w.ownsRow B' e sz u n xs) (hf : Off xb h a u) : Off xb h' a' u := fun b hb hk => by
  rcases l.own b hk with h1 | h1
  · exact hf b hb h1
  · have := own_lt ho hb; omega
theorem grown_rep {B xb : Nat} {h : RG} {a : A} {w w' : World} {u : Value} (r : RRep B xb h a w) (hg : w.grownBy w' u.ownBlock) (hf : Off xb h a u) : RRep B xb h a w' :=
  r.keep (fun k hk => hg.block k (r.lt hk).1 (fun e => hf k e.symm hk))
theorem off_new {B xb : Nat} {h : RG} {a : A} {w : World} {u v : Value} (r : RRep B xb h a w) (hf : Off xb h a u) (hl : v.ownBlock = u.ownBlock ∨ v.ownBlock = some (w.heap.size + 1)) : Off xb h a v := fun b hb hk => by
  rcases hl with hl | hl
  · exact hf b (hl ▸ hb) hk
  · have := (r.lt hk).1
    rw [hl] at hb
    have : w.heap.size + 1 = b := by simpa using hb
    omega
theorem rrun_sim (B xb : Nat) (h : RG) (a : A) (l : List Int) (w : World) (r : RRep B xb h (W a l) w) (hl : l.Perm a.tids) (gd : Good a) : Calls Try.prog 28 #[ptr xb] w fun e w' => e = .returned (.int .i64 (runF a)) ∧ Below w.heap.size w w' := by
  rw [← run_W gd hl]
  exact rrunning B xb h _ w r (good_W gd hl)
def RPlayRel (w : World) (l : List C3) (u1 u2 i : Value) (wr : World) : Prop := ∃ (j : Nat) (h : RG) (l' : List Int), j ≤ l.length ∧ i = .int .i64 j ∧ Below w.heap.size w wr ∧ l'.Perm (afterF A0 (l.take j)).tids ∧ RRep w.heap.size w.heap.size h (W (afterF A0 (l.take j)) l') wr ∧
  wr.ownsRow w.heap.size 3 1 u1 j ((playF A0 (l.take j)).1.map fun p => .int .i64 p) ∧ wr.ownsRow w.heap.size 3 1 u2 j ((playF A0 (l.take j)).2.map fun p => .int .i64 p) ∧ (∀ b, u1.ownBlock = some b → u2.ownBlock ≠ some b) ∧ Off w.heap.size h (W (afterF A0 (l.take j)) l') u1 ∧ Off w.heap.size h (W (afterF A0 (l.take j)) l') u2

set_option maxHeartbeats 2000000 in
set_option maxRecDepth 100000 in
theorem rplay_any (w : World) (v : Value) (l : List C3) (h : callsAt w v l) (hn : l.length ≤ 1000) :
    Calls Try.prog 12 #[v] w fun e w' => ∃ v1 v2, e = .returned (.tuple #[v1, v2, .int .i64 0]) ∧ Below w.heap.size w w' ∧ intsAt w' v1 (playF A0 l).1 ∧ intsAt w' v2 (playF A0 l).2 := by
  obtain ⟨i0, hi, hz0, hz1, hz2⟩ := info_parts info3
  obtain ⟨va, vc, rfl, hc⟩ := h
  have HC := Lib.hid hc
  have HB := Lib.hid (show Below w.heap.size w (w.alloc (.cells rz 63)) from (Below.refl _ _).alloc (Nat.le_refl _) _)
  have HR := Lib.hid (rep0 w)
  have hl : decide ((1000 : Int) < (l.length : Int)) = false := decide_eq_false (by omega)
  clear hc
  go_enter Try.func12, Try.ntmps12
  go_wp2_with fail
  go_loopw [6, 7, 8] (fun u1 u2 i wr => RPlayRel w l u1 u2 i wr) (fun _ _ i _ => l.length - (intOf i).toNat)
  case atStart => exact ⟨0, H0, [], Nat.zero_le _, rfl, HB.out, List.Perm.nil, HR.out, owns_none, owns_none, fun b hb => (by cases hb), fun b hb => (by cases hb), fun b hb => (by cases hb)⟩
  case round =>
    obtain ⟨j, g, l', hj, rfl, hb, hp, hk, h1, h2, hsep, hf1, hf2⟩ := hrel
    have gd : Good (afterF A0 (l.take j)) := good_after good0 _
    have g2 : Good2 (afterF A0 (l.take j)) := good2_after good0 good2_0 _
    have hcl : (afterF A0 (l.take j)).calls = j := by rw [after_calls]; simp [A0]; omega
    by_cases hlt : j < l.length
    · obtain ⟨gb, o, c, cc, cd, rfl, hg, hlc, c0, c1, c2, c3, c4⟩ := HC.out j hlt
      have z0 : wr.cell? ⟨gb, o + j * 5, none⟩ = some (.int .i64 c.1) := (hb.cell (p := ⟨gb, _, none⟩) hg).trans c0
      have z1 : wr.cell? ⟨gb, o + j * 5 + 1, none⟩ = some (.int .i64 c.2.1) := (hb.cell (p := ⟨gb, _, none⟩) hg).trans c1
      have z2 : wr.cell? ⟨gb, o + j * 5 + 2, none⟩ = some (.int .i64 c.2.2) := (hb.cell (p := ⟨gb, _, none⟩) hg).trans c2
      have z3 : wr.cell? ⟨gb, o + j * 5 + 3, none⟩ = some (.int .i64 cc) := (hb.cell (p := ⟨gb, _, none⟩) hg).trans c3
      have z4 : wr.cell? ⟨gb, o + j * 5 + 4, none⟩ = some (.int .i64 cd) := (hb.cell (p := ⟨gb, _, none⟩) hg).trans c4
      have hd : decide ((j : Int) < (l.length : Int)) = true := by simpa using hlt
      have hlt2 : j < l.length := hlt
      have C26 := Lib.hid (rdo_sim w.heap.size w.heap.size g _ l' _ hk hp gd g2 (by omega) c cc cd)
      have her := doF_err (afterF A0 (l.take j)) c
      have gd1 := good_doF gd c
      obtain ⟨s, hs⟩ : ∃ s, s = doF (afterF A0 (l.take j)) c := ⟨_, rfl⟩
      rw [← hs] at C26 her gd1
      obtain ⟨sv, se, a1⟩ := s
      simp only at her gd1
      obtain ⟨ua1, uc1, rfl⟩ := own_form h1
      obtain ⟨ua2, uc2, rfl⟩ := own_form h2
      have HS := Lib.hid hs
      have HBR := Lib.hid hb
      have HK := Lib.hid hk
      have F1 := Lib.hid hf1
      have F2 := Lib.hid hf2
      have H1 := Lib.hid h1
      have H2 := Lib.hid h2
      have HSEP := Lib.hid hsep
      have GD1 := Lib.hid gd1
      have HLC := Lib.hid hlc
      have he0 : 0 ≤ se := her.1
      have he1 : se ≤ 200 := her.2
      clear hs hb h1 h2 hsep gd1 gd g2 hlc hk hp hcl her hg c0 c1 c2 c3 c4 hf1 hf2
      cases hse : se != 0 with
      | true =>
        have HSE := Lib.hid hse
        clear hse
        have hse : (se != 0) = true := HSE.out
        go_wp2_with (first | (go_at_call 26; (with_reducible refine C26.out.mono ?_); rintro e w3 ⟨rfl, g3, l3, hp3, hL3⟩; have HP3 := Lib.hid hp3; have HB3 := Lib.hid (hL3.low HK.out); have sz3 : w.heap.size ≤ w3.heap.size := Nat.le_trans HBR.out.size HB3.out.size; have O1 := Lib.hid (left_row hL3 H1.out F1.out); have O2 := Lib.hid (left_row hL3 H2.out F2.out); have F13 := Lib.hid (left_off hL3 H1.out F1.out); have F23 := Lib.hid (left_off hL3 H2.out F2.out); have H3 := Lib.hid hL3.rep; clear hp3 hL3) | (go_at_call 28; (with_reducible refine R18.out.mono ?_); rintro e w5 ⟨rfl, hb5⟩; have HB5 := Lib.hid hb5; have sz5 : w.heap.size ≤ w5.heap.size := Nat.le_trans sz3 (Nat.le_trans HG4.out.size hb5.size); have P1 := Lib.hid (below_own Q1.out hb5); have P2 := Lib.hid (below_own Q2.out hb5); have H5 := Lib.hid (H4.out.below hb5); clear hb5) | (at_builtin; refine wpList_append_own_at _ rfl _ _ 23 rfl w.heap.size 3 i0 (.int .i64 0) 1 8 Try.underlying23 hi hz0 hz1 hz2 rfl (by decide) (.slice ua1 j uc1) j _ rfl (O1.out.alloc _) ⟨w3.heap.size, 0, none⟩ 1 1 [.int .i64 (-se)] rfl rfl (cell_one_new _ _ _) (by simp [Value.oneCell']) (by unfold maxLen; omega) (by omega) (by simp; omega) ?_; intro v1 w4 ho4 hg4 hnil4 hloc4; have HG4 := Lib.hid ((World.grownBy_alloc _ _ _).trans hg4); have Q1 := Lib.hid ho4; have Q2 := Lib.hid (grown_other (u1 := .slice ua1 j uc1) (u2 := .slice ua2 j uc2) O2.out HG4.out HSEP.out); have H4 := Lib.hid (grown_rep (u := .slice ua1 j uc1) H3.out HG4.out F13.out); (have hl4 : v1.ownBlock = (Value.slice ua1 j uc1).ownBlock ∨ v1.ownBlock = some (w3.heap.size + 1) := by simpa using hloc4); have SEPNEW := Lib.hid (sep_new (u1 := .slice ua1 j uc1) (u2 := .slice ua2 j uc2) O1.out O2.out HSEP.out hl4); have R18 := Lib.hid (rrun_sim _ _ _ _ _ _ H4.out HP3.out GD1.out); have E1 := Lib.hid (off_new (u := .slice ua1 j uc1) H3.out F13.out hl4); clear hl4 ho4 hg4 hnil4 hloc4) | (at_builtin; refine wpList_append_own_at _ rfl _ _ 23 rfl w.heap.size 3 i0 (.int .i64 0) 1 8 Try.underlying23 hi hz0 hz1 hz2 rfl (by decide) (.slice ua2 j uc2) j _ rfl (P2.out.alloc _) ⟨w5.heap.size, 0, none⟩ 1 1 [.int .i64 (runF a1)] rfl rfl (cell_one_new _ _ _) (by simp [Value.oneCell']) (by unfold maxLen; omega) (by omega) (by simp; omega) ?_; intro v2 w6 ho6 hg6 hnil6 hloc6; have HG6 := Lib.hid ((World.grownBy_alloc _ _ _).trans hg6); have U2 := Lib.hid ho6; (have hl6 : v2.ownBlock = (Value.slice ua2 j uc2).ownBlock ∨ v2.ownBlock = some (w5.heap.size + 1) := by simpa using hloc6); have L6 := Lib.hid hl6; have E2 := Lib.hid (off_new (u := .slice ua2 j uc2) H5.out F23.out hl6); clear hl6; clear ho6 hg6 hnil6 hloc6))
        go_roundw
        case rel =>
          have ht : l.take (j + 1) = l.take j ++ [c] := by
            have hc0 := HLC.out
            rw [List.getElem?_eq_getElem hlt] at hc0
            rw [List.take_succ_eq_append_getElem hlt]
            simp at hc0
            rw [hc0]
          have ea : afterF A0 (l.take (j + 1)) = a1 := by rw [ht, afterF_append, ← HS.out]
          have eg : playF A0 (l.take (j + 1)) = ((playF A0 (l.take j)).1 ++ [-se], (playF A0 (l.take j)).2 ++ [runF a1]) := by
            rw [ht, playF_append, ← HS.out]
            have : gaveOf (sv, se, a1) = -se := by
              unfold gaveOf
              have := HSE.out
              simp at this
              simp [this]
            rw [this]
          refine ⟨j + 1, g3, l3, by omega, by go_num, ?_, ?_, ?_, ?_, ?_, ?_, E1.out, E2.out⟩
          · refine HBR.out.trans (HB3.out.trans ?_)
            refine (((Below.refl _ _).grown HG4.out sz3 (fun k hk => (own_block O1.out hk).1)).trans (HB5.out.mono (Nat.le_trans sz3 HG4.out.size))).grown HG6.out sz5 (fun k hk => (own_block P2.out hk).1)
          · rw [ea]
            exact HP3.out
          · rw [ea]
            exact grown_rep (u := .slice ua2 j uc2) H5.out HG6.out F23.out
          · rw [eg]
            have := grown_other (u1 := .slice ua2 j uc2) P1.out HG6.out (fun b hb hb2 => SEPNEW.out b hb2 hb)
            simpa using this
          · rw [eg]
            simpa using U2.out
          · intro b hb hb2
            rcases L6.out with h6 | h6
            · rw [h6] at hb2
              exact SEPNEW.out b hb hb2
            · have hlt1 := own_lt P1.out hb
              rw [h6] at hb2
              have : w5.heap.size + 1 = b := by simpa using hb2
              omega
        case measure => simp [intOf]; omega
      | false =>
        have HSE := Lib.hid hse
        clear hse
        have hse : (se != 0) = false := HSE.out
        go_wp2_with (first | (go_at_call 26; (with_reducible refine C26.out.mono ?_); rintro e w3 ⟨rfl, g3, l3, hp3, hL3⟩; have HP3 := Lib.hid hp3; have HB3 := Lib.hid (hL3.low HK.out); have sz3 : w.heap.size ≤ w3.heap.size := Nat.le_trans HBR.out.size HB3.out.size; have O1 := Lib.hid (left_row hL3 H1.out F1.out); have O2 := Lib.hid (left_row hL3 H2.out F2.out); have F13 := Lib.hid (left_off hL3 H1.out F1.out); have F23 := Lib.hid (left_off hL3 H2.out F2.out); have H3 := Lib.hid hL3.rep; clear hp3 hL3) | (go_at_call 28; (with_reducible refine R18.out.mono ?_); rintro e w5 ⟨rfl, hb5⟩; have HB5 := Lib.hid hb5; have sz5 : w.heap.size ≤ w5.heap.size := Nat.le_trans sz3 (Nat.le_trans HG4.out.size hb5.size); have P1 := Lib.hid (below_own Q1.out hb5); have P2 := Lib.hid (below_own Q2.out hb5); have H5 := Lib.hid (H4.out.below hb5); clear hb5) | (at_builtin; refine wpList_append_own_at _ rfl _ _ 23 rfl w.heap.size 3 i0 (.int .i64 0) 1 8 Try.underlying23 hi hz0 hz1 hz2 rfl (by decide) (.slice ua1 j uc1) j _ rfl (O1.out.alloc _) ⟨w3.heap.size, 0, none⟩ 1 1 [.int .i64 (sv)] rfl rfl (cell_one_new _ _ _) (by simp [Value.oneCell']) (by unfold maxLen; omega) (by omega) (by simp; omega) ?_; intro v1 w4 ho4 hg4 hnil4 hloc4; have HG4 := Lib.hid ((World.grownBy_alloc _ _ _).trans hg4); have Q1 := Lib.hid ho4; have Q2 := Lib.hid (grown_other (u1 := .slice ua1 j uc1) (u2 := .slice ua2 j uc2) O2.out HG4.out HSEP.out); have H4 := Lib.hid (grown_rep (u := .slice ua1 j uc1) H3.out HG4.out F13.out); (have hl4 : v1.ownBlock = (Value.slice ua1 j uc1).ownBlock ∨ v1.ownBlock = some (w3.heap.size + 1) := by simpa using hloc4); have SEPNEW := Lib.hid (sep_new (u1 := .slice ua1 j uc1) (u2 := .slice ua2 j uc2) O1.out O2.out HSEP.out hl4); have R18 := Lib.hid (rrun_sim _ _ _ _ _ _ H4.out HP3.out GD1.out); have E1 := Lib.hid (off_new (u := .slice ua1 j uc1) H3.out F13.out hl4); clear hl4 ho4 hg4 hnil4 hloc4) | (at_builtin; refine wpList_append_own_at _ rfl _ _ 23 rfl w.heap.size 3 i0 (.int .i64 0) 1 8 Try.underlying23 hi hz0 hz1 hz2 rfl (by decide) (.slice ua2 j uc2) j _ rfl (P2.out.alloc _) ⟨w5.heap.size, 0, none⟩ 1 1 [.int .i64 (runF a1)] rfl rfl (cell_one_new _ _ _) (by simp [Value.oneCell']) (by unfold maxLen; omega) (by omega) (by simp; omega) ?_; intro v2 w6 ho6 hg6 hnil6 hloc6; have HG6 := Lib.hid ((World.grownBy_alloc _ _ _).trans hg6); have U2 := Lib.hid ho6; (have hl6 : v2.ownBlock = (Value.slice ua2 j uc2).ownBlock ∨ v2.ownBlock = some (w5.heap.size + 1) := by simpa using hloc6); have L6 := Lib.hid hl6; have E2 := Lib.hid (off_new (u := .slice ua2 j uc2) H5.out F23.out hl6); clear hl6; clear ho6 hg6 hnil6 hloc6))
        go_roundw
        case rel =>
          have ht : l.take (j + 1) = l.take j ++ [c] := by
            have hc0 := HLC.out
            rw [List.getElem?_eq_getElem hlt] at hc0
            rw [List.take_succ_eq_append_getElem hlt]
            simp at hc0
            rw [hc0]
          have ea : afterF A0 (l.take (j + 1)) = a1 := by rw [ht, afterF_append, ← HS.out]
          have eg : playF A0 (l.take (j + 1)) = ((playF A0 (l.take j)).1 ++ [sv], (playF A0 (l.take j)).2 ++ [runF a1]) := by
            rw [ht, playF_append, ← HS.out]
            have : gaveOf (sv, se, a1) = sv := by
              unfold gaveOf
              have := HSE.out
              simp at this
              simp [this]
            rw [this]
          refine ⟨j + 1, g3, l3, by omega, by go_num, ?_, ?_, ?_, ?_, ?_, ?_, E1.out, E2.out⟩
          · refine HBR.out.trans (HB3.out.trans ?_)
            refine (((Below.refl _ _).grown HG4.out sz3 (fun k hk => (own_block O1.out hk).1)).trans (HB5.out.mono (Nat.le_trans sz3 HG4.out.size))).grown HG6.out sz5 (fun k hk => (own_block P2.out hk).1)
          · rw [ea]
            exact HP3.out
          · rw [ea]
            exact grown_rep (u := .slice ua2 j uc2) H5.out HG6.out F23.out
          · rw [eg]
            have := grown_other (u1 := .slice ua2 j uc2) P1.out HG6.out (fun b hb hb2 => SEPNEW.out b hb2 hb)
            simpa using this
          · rw [eg]
            simpa using U2.out
          · intro b hb hb2
            rcases L6.out with h6 | h6
            · rw [h6] at hb2
              exact SEPNEW.out b hb hb2
            · have hlt1 := own_lt P1.out hb
              rw [h6] at hb2
              have : w5.heap.size + 1 = b := by simpa using hb2
              omega
        case measure => simp [intOf]; omega
    · have hjn : j = l.length := by omega
      subst hjn
      have HB1 := Lib.hid hb
      have H1 := Lib.hid h1
      have H2 := Lib.hid h2
      clear hb hk h1 h2 hsep gd g2 hcl hp hf1 hf2
      go_wp2_with fail
      go_ret3
      refine ⟨_, _, rfl, HB1.out, ⟨w.heap.size, ?_⟩, ⟨w.heap.size, ?_⟩⟩
      · rw [(playF_len A0 l).1]
        simpa using H1.out
      · rw [(playF_len A0 l).2]
        simpa using H2.out
end Go.Proofs.Ytkmgbnklfnjfjaa.Ker
