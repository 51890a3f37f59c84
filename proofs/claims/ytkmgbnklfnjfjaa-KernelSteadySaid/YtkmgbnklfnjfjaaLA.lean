import Derived.Test.YtkmgbnklfnjfjaaKZ
/-! Contracts: Do and Running with the plain kernel; Play. -/
namespace Go.Proofs.Ytkmgbnklfnjfjaa.Ker
open Go.RowKit Go.Maps

theorem do_det (B kb : Nat) (g : G) (a : A) (w : World) (h : KRep B kb g a w) (gd : Good a) (hca : 0 ≤ a.calls ∧ a.calls < 100000) (c : C3) (cc cd : Int) :
    Calls Try.prog 19 #[ptr kb, .agg #[.int .i64 c.1, .int .i64 c.2.1, .int .i64 c.2.2, .int .i64 cc, .int .i64 cd]] w (GivesS B kb w (doF a c)) := by
  have gb : Good (bump a) := gd.calls _ (by omega)
  refine (do_any B kb g a w h gb hca c.1 c.2.1 c.2.2 cc cd).mono ?_
  rintro e w' ⟨r, hr, hg⟩
  rw [isRun_eq gb hr] at hg
  exact hg
theorem run_det (B kb : Nat) (g : G) (a : A) (w : World) (h : KRep B kb g a w) (gd : Good a) :
    Calls Try.prog 18 #[ptr kb] w fun e w' => e = .returned (.int .i64 (runF a)) ∧ Below w.heap.size w w' := by
  refine (running_any B kb g a w h gd.tnd).mono ?_
  rintro e w' ⟨r, rfl, hr, hb⟩
  rw [isRun_eq gd hr]
  exact ⟨rfl, hb⟩

/-- Slice v holds the calls l. -/
def callsAt (w : World) (v : Value) (l : List C3) : Prop := ∃ va vc, v = .slice va l.length vc ∧ ∀ j, j < l.length → ∃ (gb o : Nat) (c : C3) (cc cd : Int), va = some ⟨gb, o, none⟩ ∧ gb < w.heap.size ∧ l[j]? = some c ∧ w.cell? ⟨gb, o + j * 5, none⟩ = some (.int .i64 c.1) ∧ w.cell? ⟨gb, o + j * 5 + 1, none⟩ = some (.int .i64 c.2.1) ∧ w.cell? ⟨gb, o + j * 5 + 2, none⟩ = some (.int .i64 c.2.2) ∧ w.cell? ⟨gb, o + j * 5 + 3, none⟩ = some (.int .i64 cc) ∧ w.cell? ⟨gb, o + j * 5 + 4, none⟩ = some (.int .i64 cd)
theorem cell_fr {w : World} {b : Nat} {c : Array Value} {ty : TypeId} {fr : Nat × Nat} (h : w.heap[b]? = some (.cells c ty fr)) (j : Nat) : w.cell? ⟨b, j, none⟩ = c[j]? := by simp [World.cell?, h]

theorem ints_keep {B kb B' : Nat} {w w' : World} {v : Value} {n : Nat} {xs : List Value} (h : w.ownsRow B' 3 1 v n xs) (hb : Bel B kb w w') : w'.ownsRow B' 3 1 v n xs :=
  own_keep h (fun g hg _ => by
    obtain ⟨_, cur, hc⟩ := own_block h hg
    rw [hc]
    exact hb.off g cur 3 (0, 0) hc rfl (fun h => by cases h))

theorem playF_append (a : A) : ∀ (l : List C3) (c : C3), playF a (l ++ [c]) = ((playF a l).1 ++ [gaveOf (doF (afterF a l) c)], (playF a l).2 ++ [runF (doF (afterF a l) c).2.2])
  | [], c => rfl
  | b :: l, c => by simp [playF, afterF, playF_append _ l c]
theorem afterF_append (a : A) : ∀ (l : List C3) (c : C3), afterF a (l ++ [c]) = (doF (afterF a l) c).2.2
  | [], c => rfl
  | b :: l, c => by simp [afterF, afterF_append _ l c]
theorem good_after {a : A} (h : Good a) : ∀ l, Good (afterF a l)
  | [] => h
  | c :: l => good_after (good_doF h c) l
theorem after_calls (a : A) : ∀ l : List C3, (afterF a l).calls = a.calls + l.length
  | [] => by simp [afterF]
  | c :: l => by simp [afterF, after_calls _ l, doF_calls]; omega
theorem playF_len (a : A) : ∀ l : List C3, (playF a l).1.length = l.length ∧ (playF a l).2.length = l.length
  | [] => ⟨rfl, rfl⟩
  | c :: l => by simp [playF, playF_len _ l]

/-- Rows of numbers are no part of a kernel. -/
theorem KRep.off {B kb : Nat} {g : G} {a : A} {w w' : World} (h : KRep B kb g a w) {S : Nat → Prop} (ht : Touch w w' S) (hs : ∀ k, S k → k < w.heap.size → ∃ c fr, w.heap[k]? = some (.cells c 3 fr)) : KRep B kb g a w' := by
  have kp : ∀ {b o}, w.heap[b]? = some o → kindOf o ≠ 4 → w'.heap[b]? = some o := fun {b o} hb hk => keep_kind ht hb (fun o' hp hw => by
    obtain ⟨c, fr, h3⟩ := hs b hp (blt hw)
    rw [h3] at hw
    cases hw
    exact fun e => hk e.symm)
  have rk : ∀ {e sz v n xs}, w.ownsRow B e sz v n xs → e ≠ 3 → w'.ownsRow B e sz v n xs := fun {e sz v n xs} ho he => own_keep ho (fun b hvb _ => by
    obtain ⟨_, cur, hc⟩ := own_block ho hvb
    rw [hc]
    exact kp hc (fun hh => he (Nat.succ.inj hh)))
  have mk : ∀ {b kvs}, mapAt w b kvs → mapAt w' b kvs := fun {b kvs} hm => by
    obtain ⟨es, c, h1, h2⟩ := hm
    exact ⟨es, c, kp h1 (by simp [kindOf]), h2⟩
  exact ⟨kp h.ker (by simp [kindOf]), mk h.tmap, mk h.dmap, mk h.pmap, h.maps, fun j hj => kp (h.task j hj) (by simp [kindOf]), fun j hj => kp (h.dev j hj) (by simp [kindOf]), h.dinj, fun j hj => kp (h.pack j hj) (by simp [kindOf]), fun j hj => rk (h.row j hj) (by decide), rk h.mrow (by decide), h.sep, h.low, h.tpos⟩
theorem grown_other {w w' : World} {B m : Nat} {u1 u2 : Value} {xs : List Value} (h : w.ownsRow B 3 1 u2 m xs) (hg : w.grownBy w' u1.ownBlock) (hs : ∀ b, u1.ownBlock = some b → u2.ownBlock ≠ some b) : w'.ownsRow B 3 1 u2 m xs :=
  own_keep h (fun g hu hl => hg.block g hl (fun e => hs g e.symm hu))
theorem grown_ker {w w' : World} {B B' kb n : Nat} {g : G} {a : A} {u1 : Value} {xs : List Value} (h : KRep B kb g a w) (ho : w.ownsRow B' 3 1 u1 n xs) (hg : w.grownBy w' u1.ownBlock) : KRep B kb g a w' :=
  h.off (Touch.grown hg) (fun k hk _ => by
    obtain ⟨_, c, hc⟩ := own_block ho hk.symm
    exact ⟨c, _, hc⟩)
theorem below_own {w w' : World} {B n : Nat} {u : Value} {xs : List Value} (h : w.ownsRow B 3 1 u n xs) (hb : Below w.heap.size w w') : w'.ownsRow B 3 1 u n xs :=
  own_keep h (fun g _ hl => hb.block g hl)
theorem sep_new {w : World} {B n m : Nat} {u1 u2 v1 : Value} {xs ys : List Value} (h1 : w.ownsRow B 3 1 u1 n xs) (h2 : w.ownsRow B 3 1 u2 m ys) (hs : ∀ b, u1.ownBlock = some b → u2.ownBlock ≠ some b) (hl : v1.ownBlock = u1.ownBlock ∨ v1.ownBlock = some (w.heap.size + 1)) : ∀ b, v1.ownBlock = some b → u2.ownBlock ≠ some b := by
  intro b hb hb2
  rcases hl with hl | hl
  · rw [hl] at hb
    exact hs b hb hb2
  · have := own_lt h2 hb2
    rw [hl] at hb
    have : w.heap.size + 1 = b := by simpa using hb
    omega
theorem stepA_err (a : A) (r d x y : Int) : 0 ≤ (stepA a r d x y).2.1 ∧ (stepA a r d x y).2.1 ≤ 200 := by
  unfold stepA
  by_cases e1 : d = 1
  · rw [if_pos e1]
    unfold createS
    repeat' (first | (dsimp only; omega) | split)
  rw [if_neg e1]
  by_cases e2 : d = 2
  · rw [if_pos e2]
    unfold removeS
    repeat' (first | (dsimp only; omega) | split)
  rw [if_neg e2]
  by_cases e3 : d = 3
  · rw [if_pos e3]
    unfold sendS
    repeat' (first | (dsimp only; omega) | split)
  rw [if_neg e3]
  by_cases e4 : d = 4
  · rw [if_pos e4]
    unfold takeS
    repeat' (first | (dsimp only; omega) | split)
  rw [if_neg e4]
  by_cases e5 : d = 5
  · rw [if_pos e5]
    unfold heldS
    repeat' (first | (dsimp only; omega) | split)
  rw [if_neg e5]
  by_cases e6 : d = 6
  · rw [if_pos e6]
    unfold heldS
    repeat' (first | (dsimp only; omega) | split)
  rw [if_neg e6]
  by_cases e7 : d = 7
  · rw [if_pos e7]
    unfold setS
    repeat' (first | (dsimp only; omega) | split)
  rw [if_neg e7]
  by_cases e8 : d = 8
  · rw [if_pos e8]
    unfold testS
    repeat' (first | (dsimp only; omega) | split)
  rw [if_neg e8]
  by_cases e9 : d = 9
  · rw [if_pos e9]
    unfold priS
    repeat' (first | (dsimp only; omega) | split)
  rw [if_neg e9]
  by_cases e10 : d = 10
  · rw [if_pos e10]
    unfold fetchS
    repeat' (first | (dsimp only; omega) | split)
  rw [if_neg e10]
  by_cases e11 : d = 11
  · rw [if_pos e11]
    unfold packetS
    repeat' (first | (dsimp only; omega) | split)
  rw [if_neg e11]
  by_cases e12 : d = 12
  · rw [if_pos e12]
    unfold deviceS
    repeat' (first | (dsimp only; omega) | split)
  rw [if_neg e12]
  by_cases e13 : d = 13
  · rw [if_pos e13]
    unfold waitS
    repeat' (first | (dsimp only; omega) | split)
  rw [if_neg e13]
  dsimp only
  omega
theorem doF_err (a : A) (c : C3) : 0 ≤ (doF a c).2.1 ∧ (doF a c).2.1 ≤ 200 := by
  unfold doF doA
  split
  · dsimp only; omega
  · split
    · dsimp only; omega
    · exact stepA_err _ _ _ _ _
def PlayRel (w : World) (l : List C3) (u1 u2 i : Value) (wr : World) : Prop := ∃ (j : Nat) (g : G), j ≤ l.length ∧ i = .int .i64 j ∧ Below w.heap.size w wr ∧ KRep w.heap.size w.heap.size g (afterF A0 (l.take j)) wr ∧
  wr.ownsRow w.heap.size 3 1 u1 j ((playF A0 (l.take j)).1.map fun p => .int .i64 p) ∧ wr.ownsRow w.heap.size 3 1 u2 j ((playF A0 (l.take j)).2.map fun p => .int .i64 p) ∧ ∀ b, u1.ownBlock = some b → u2.ownBlock ≠ some b

set_option maxHeartbeats 2000000 in
set_option maxRecDepth 100000 in
theorem play_any (w : World) (v : Value) (l : List C3) (h : callsAt w v l) (hn : l.length ≤ 1000) :
    Calls Try.prog 11 #[v] w fun e w' => ∃ v1 v2, e = .returned (.tuple #[v1, v2, .int .i64 0]) ∧ Below w.heap.size w w' ∧ intsAt w' v1 (playF A0 l).1 ∧ intsAt w' v2 (playF A0 l).2 := by
  obtain ⟨i0, hi, hz0, hz1, hz2⟩ := info_parts info3
  obtain ⟨va, vc, rfl, hc⟩ := h
  have HC := Lib.hid hc
  have CN := Lib.hid (new_any w)
  have hl : decide ((1000 : Int) < (l.length : Int)) = false := decide_eq_false (by omega)
  clear hc
  go_enter Try.func11, Try.ntmps11
  go_wp2_with (go_at_call 17; (with_reducible refine CN.out.mono ?_); rintro e w1 ⟨rfl, hb, hk⟩; have HB := Lib.hid hb; have HK := Lib.hid hk; clear hb hk)
  go_loopw [6, 7, 18] (fun u1 u2 i wr => PlayRel w l u1 u2 i wr) (fun _ _ i _ => l.length - (intOf i).toNat)
  case atStart => exact ⟨0, G0 w.heap.size, Nat.zero_le _, rfl, HB.out, HK.out, owns_none, owns_none, fun b hb => by cases hb⟩
  case round =>
    obtain ⟨j, g, hj, rfl, hb, hk, h1, h2, hsep⟩ := hrel
    have gd : Good (afterF A0 (l.take j)) := good_after good0 _
    have hcl : (afterF A0 (l.take j)).calls = j := by rw [after_calls]; simp [A0]; omega
    by_cases hlt : j < l.length
    · obtain ⟨gb, o, c, cc, cd, rfl, hg, hlc, c0, c1, c2, c3, c4⟩ := HC.out j hlt
      have z0 : wr.cell? ⟨gb, o + j * 5, none⟩ = some (.int .i64 c.1) := (hb.cell (p := ⟨gb, _, none⟩) hg).trans c0
      have z1 : wr.cell? ⟨gb, o + j * 5 + 1, none⟩ = some (.int .i64 c.2.1) := (hb.cell (p := ⟨gb, _, none⟩) hg).trans c1
      have z2 : wr.cell? ⟨gb, o + j * 5 + 2, none⟩ = some (.int .i64 c.2.2) := (hb.cell (p := ⟨gb, _, none⟩) hg).trans c2
      have z3 : wr.cell? ⟨gb, o + j * 5 + 3, none⟩ = some (.int .i64 cc) := (hb.cell (p := ⟨gb, _, none⟩) hg).trans c3
      have z4 : wr.cell? ⟨gb, o + j * 5 + 4, none⟩ = some (.int .i64 cd) := (hb.cell (p := ⟨gb, _, none⟩) hg).trans c4
      have hd : decide ((j : Int) < (l.length : Int)) = true := by simpa using hlt
      have hlt2 : j < l.length := hlt
      have hka := hk.keep (w' := wr.alloc (.cells #[.int .i64 c.1, .int .i64 c.2.1, .int .i64 c.2.2, .int .i64 cc, .int .i64 cd] 38)) (fun k hk => Below.heap_alloc wr _ _ hk)
      have C19 := Lib.hid (do_det w.heap.size w.heap.size g _ _ hka gd (by omega) c cc cd)
      have hba : Bel w.heap.size w.heap.size wr (wr.alloc (.cells #[.int .i64 c.1, .int .i64 c.2.1, .int .i64 c.2.2, .int .i64 cc, .int .i64 cd] 38)) := (Bel.refl _ _ _).alloc hb.size hk.klt _
      have her := doF_err (afterF A0 (l.take j)) c
      have gd1 := good_doF gd c
      obtain ⟨s, hs⟩ : ∃ s, s = doF (afterF A0 (l.take j)) c := ⟨_, rfl⟩
      rw [← hs] at C19 her gd1
      obtain ⟨sv, se, a1⟩ := s
      simp only at her gd1
      obtain ⟨ua1, uc1, rfl⟩ := own_form h1
      obtain ⟨ua2, uc2, rfl⟩ := own_form h2
      have HS := Lib.hid hs
      have HBR := Lib.hid hb
      have HBA := Lib.hid hba
      have H1 := Lib.hid h1
      have H2 := Lib.hid h2
      have HSEP := Lib.hid hsep
      have GD1 := Lib.hid gd1
      have HLC := Lib.hid hlc
      have he0 : 0 ≤ se := her.1
      have he1 : se ≤ 200 := her.2
      clear hs hb hba h1 h2 hsep gd1 gd hlc hk hka hcl her hg c0 c1 c2 c3 c4
      cases hse : se != 0 with
      | true =>
        have HSE := Lib.hid hse
        clear hse
        have hse : (se != 0) = true := HSE.out
        go_wp2_with (first | (go_at_call 19; (with_reducible refine C19.out.mono ?_); rintro e w3 ⟨rfl, hb3, g3, h3⟩; have HB3 := Lib.hid (HBA.out.trans hb3); have sz3 : w.heap.size ≤ w3.heap.size := Nat.le_trans HBR.out.size HB3.out.size; have O1 := Lib.hid (ints_keep H1.out HB3.out); have O2 := Lib.hid (ints_keep H2.out HB3.out); have H3 := Lib.hid h3; clear hb3 h3) | (go_at_call 18; (with_reducible refine R18.out.mono ?_); rintro e w5 ⟨rfl, hb5⟩; have HB5 := Lib.hid hb5; have sz5 : w.heap.size ≤ w5.heap.size := Nat.le_trans sz3 (Nat.le_trans HG4.out.size hb5.size); have P1 := Lib.hid (below_own Q1.out hb5); have P2 := Lib.hid (below_own Q2.out hb5); have H5 := Lib.hid (H4.out.below hb5); clear hb5) | (at_builtin; refine wpList_append_own_at _ rfl _ _ 23 rfl w.heap.size 3 i0 (.int .i64 0) 1 8 Try.underlying23 hi hz0 hz1 hz2 rfl (by decide) (.slice ua1 j uc1) j _ rfl (O1.out.alloc _) ⟨w3.heap.size, 0, none⟩ 1 1 [.int .i64 (-se)] rfl rfl (cell_one_new _ _ _) (by simp [Value.oneCell']) (by unfold maxLen; omega) (by omega) (by simp; omega) ?_; intro v1 w4 ho4 hg4 hnil4 hloc4; have HG4 := Lib.hid ((World.grownBy_alloc _ _ _).trans hg4); have Q1 := Lib.hid ho4; have Q2 := Lib.hid (grown_other (u1 := .slice ua1 j uc1) (u2 := .slice ua2 j uc2) O2.out HG4.out HSEP.out); have H4 := Lib.hid (grown_ker (u1 := .slice ua1 j uc1) H3.out O1.out HG4.out); (have hl4 : v1.ownBlock = (Value.slice ua1 j uc1).ownBlock ∨ v1.ownBlock = some (w3.heap.size + 1) := by simpa using hloc4); have SEPNEW := Lib.hid (sep_new (u1 := .slice ua1 j uc1) (u2 := .slice ua2 j uc2) O1.out O2.out HSEP.out hl4); clear hl4; have R18 := Lib.hid (run_det _ _ _ _ _ H4.out GD1.out); clear ho4 hg4 hnil4 hloc4) | (at_builtin; refine wpList_append_own_at _ rfl _ _ 23 rfl w.heap.size 3 i0 (.int .i64 0) 1 8 Try.underlying23 hi hz0 hz1 hz2 rfl (by decide) (.slice ua2 j uc2) j _ rfl (P2.out.alloc _) ⟨w5.heap.size, 0, none⟩ 1 1 [.int .i64 (runF a1)] rfl rfl (cell_one_new _ _ _) (by simp [Value.oneCell']) (by unfold maxLen; omega) (by omega) (by simp; omega) ?_; intro v2 w6 ho6 hg6 hnil6 hloc6; have HG6 := Lib.hid ((World.grownBy_alloc _ _ _).trans hg6); have U2 := Lib.hid ho6; (have hl6 : v2.ownBlock = (Value.slice ua2 j uc2).ownBlock ∨ v2.ownBlock = some (w5.heap.size + 1) := by simpa using hloc6); have L6 := Lib.hid hl6; clear hl6; clear ho6 hg6 hnil6 hloc6))
        go_roundw
        case rel =>
          have ht : l.take (j + 1) = l.take j ++ [c] := by
            have hc0 := HLC.out
            rw [List.getElem?_eq_getElem hlt] at hc0
            rw [List.take_succ_eq_append_getElem hlt]
            simp at hc0
            rw [hc0]
          have ea : afterF A0 (l.take (j + 1)) = a1 := by rw [ht, afterF_append, ← HS.out]
          have eg : playF A0 (l.take (j + 1)) = ((playF A0 (l.take j)).1 ++ [-se], (playF A0 (l.take j)).2 ++ [runF a1]) := by
            rw [ht, playF_append, ← HS.out]
            have : gaveOf (sv, se, a1) = -se := by
              unfold gaveOf
              have := HSE.out
              simp at this
              simp [this]
            rw [this]
          refine ⟨j + 1, g3, by omega, by go_num, ?_, ?_, ?_, ?_, ?_⟩
          · refine HBR.out.trans (HB3.out.low.trans ?_)
            refine (((Below.refl _ _).grown HG4.out sz3 (fun k hk => (own_block O1.out hk).1)).trans (HB5.out.mono (Nat.le_trans sz3 HG4.out.size))).grown HG6.out sz5 (fun k hk => (own_block P2.out hk).1)
          · rw [ea]
            exact grown_ker (u1 := .slice ua2 j uc2) H5.out P2.out HG6.out
          · rw [eg]
            have := grown_other (u1 := .slice ua2 j uc2) P1.out HG6.out (fun b hb hb2 => SEPNEW.out b hb2 hb)
            simpa using this
          · rw [eg]
            simpa using U2.out
          · intro b hb hb2
            rcases L6.out with h6 | h6
            · rw [h6] at hb2
              exact SEPNEW.out b hb hb2
            · have hlt1 := own_lt P1.out hb
              rw [h6] at hb2
              have : w5.heap.size + 1 = b := by simpa using hb2
              omega
        case measure => simp [intOf]; omega
      | false =>
        have HSE := Lib.hid hse
        clear hse
        have hse : (se != 0) = false := HSE.out
        go_wp2_with (first | (go_at_call 19; (with_reducible refine C19.out.mono ?_); rintro e w3 ⟨rfl, hb3, g3, h3⟩; have HB3 := Lib.hid (HBA.out.trans hb3); have sz3 : w.heap.size ≤ w3.heap.size := Nat.le_trans HBR.out.size HB3.out.size; have O1 := Lib.hid (ints_keep H1.out HB3.out); have O2 := Lib.hid (ints_keep H2.out HB3.out); have H3 := Lib.hid h3; clear hb3 h3) | (go_at_call 18; (with_reducible refine R18.out.mono ?_); rintro e w5 ⟨rfl, hb5⟩; have HB5 := Lib.hid hb5; have sz5 : w.heap.size ≤ w5.heap.size := Nat.le_trans sz3 (Nat.le_trans HG4.out.size hb5.size); have P1 := Lib.hid (below_own Q1.out hb5); have P2 := Lib.hid (below_own Q2.out hb5); have H5 := Lib.hid (H4.out.below hb5); clear hb5) | (at_builtin; refine wpList_append_own_at _ rfl _ _ 23 rfl w.heap.size 3 i0 (.int .i64 0) 1 8 Try.underlying23 hi hz0 hz1 hz2 rfl (by decide) (.slice ua1 j uc1) j _ rfl (O1.out.alloc _) ⟨w3.heap.size, 0, none⟩ 1 1 [.int .i64 (sv)] rfl rfl (cell_one_new _ _ _) (by simp [Value.oneCell']) (by unfold maxLen; omega) (by omega) (by simp; omega) ?_; intro v1 w4 ho4 hg4 hnil4 hloc4; have HG4 := Lib.hid ((World.grownBy_alloc _ _ _).trans hg4); have Q1 := Lib.hid ho4; have Q2 := Lib.hid (grown_other (u1 := .slice ua1 j uc1) (u2 := .slice ua2 j uc2) O2.out HG4.out HSEP.out); have H4 := Lib.hid (grown_ker (u1 := .slice ua1 j uc1) H3.out O1.out HG4.out); (have hl4 : v1.ownBlock = (Value.slice ua1 j uc1).ownBlock ∨ v1.ownBlock = some (w3.heap.size + 1) := by simpa using hloc4); have SEPNEW := Lib.hid (sep_new (u1 := .slice ua1 j uc1) (u2 := .slice ua2 j uc2) O1.out O2.out HSEP.out hl4); clear hl4; have R18 := Lib.hid (run_det _ _ _ _ _ H4.out GD1.out); clear ho4 hg4 hnil4 hloc4) | (at_builtin; refine wpList_append_own_at _ rfl _ _ 23 rfl w.heap.size 3 i0 (.int .i64 0) 1 8 Try.underlying23 hi hz0 hz1 hz2 rfl (by decide) (.slice ua2 j uc2) j _ rfl (P2.out.alloc _) ⟨w5.heap.size, 0, none⟩ 1 1 [.int .i64 (runF a1)] rfl rfl (cell_one_new _ _ _) (by simp [Value.oneCell']) (by unfold maxLen; omega) (by omega) (by simp; omega) ?_; intro v2 w6 ho6 hg6 hnil6 hloc6; have HG6 := Lib.hid ((World.grownBy_alloc _ _ _).trans hg6); have U2 := Lib.hid ho6; (have hl6 : v2.ownBlock = (Value.slice ua2 j uc2).ownBlock ∨ v2.ownBlock = some (w5.heap.size + 1) := by simpa using hloc6); have L6 := Lib.hid hl6; clear hl6; clear ho6 hg6 hnil6 hloc6))
        go_roundw
        case rel =>
          have ht : l.take (j + 1) = l.take j ++ [c] := by
            have hc0 := HLC.out
            rw [List.getElem?_eq_getElem hlt] at hc0
            rw [List.take_succ_eq_append_getElem hlt]
            simp at hc0
            rw [hc0]
          have ea : afterF A0 (l.take (j + 1)) = a1 := by rw [ht, afterF_append, ← HS.out]
          have eg : playF A0 (l.take (j + 1)) = ((playF A0 (l.take j)).1 ++ [sv], (playF A0 (l.take j)).2 ++ [runF a1]) := by
            rw [ht, playF_append, ← HS.out]
            have : gaveOf (sv, se, a1) = sv := by
              unfold gaveOf
              have := HSE.out
              simp at this
              simp [this]
            rw [this]
          refine ⟨j + 1, g3, by omega, by go_num, ?_, ?_, ?_, ?_, ?_⟩
          · refine HBR.out.trans (HB3.out.low.trans ?_)
            refine (((Below.refl _ _).grown HG4.out sz3 (fun k hk => (own_block O1.out hk).1)).trans (HB5.out.mono (Nat.le_trans sz3 HG4.out.size))).grown HG6.out sz5 (fun k hk => (own_block P2.out hk).1)
          · rw [ea]
            exact grown_ker (u1 := .slice ua2 j uc2) H5.out P2.out HG6.out
          · rw [eg]
            have := grown_other (u1 := .slice ua2 j uc2) P1.out HG6.out (fun b hb hb2 => SEPNEW.out b hb2 hb)
            simpa using this
          · rw [eg]
            simpa using U2.out
          · intro b hb hb2
            rcases L6.out with h6 | h6
            · rw [h6] at hb2
              exact SEPNEW.out b hb hb2
            · have hlt1 := own_lt P1.out hb
              rw [h6] at hb2
              have : w5.heap.size + 1 = b := by simpa using hb2
              omega
        case measure => simp [intOf]; omega
    · have hjn : j = l.length := by omega
      subst hjn
      have HB1 := Lib.hid hb
      have H1 := Lib.hid h1
      have H2 := Lib.hid h2
      clear hb hk h1 h2 hsep gd hcl
      go_wp2_with fail
      go_ret3
      refine ⟨_, _, rfl, HB1.out, ⟨w.heap.size, ?_⟩, ⟨w.heap.size, ?_⟩⟩
      · rw [(playF_len A0 l).1]
        simpa using H1.out
      · rw [(playF_len A0 l).2]
        simpa using H2.out
end Go.Proofs.Ytkmgbnklfnjfjaa.Ker
