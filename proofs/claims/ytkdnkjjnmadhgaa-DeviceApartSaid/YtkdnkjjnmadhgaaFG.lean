import Derived.Test.YtkdnkjjnmadhgaaFE
import Derived.Test.YtkdnkjjnmadhgaaDV
import Derived.Test.YtkdnkjjnmadhgaaDW
import Derived.Deep.CutBlock
set_option linter.unusedVariables false
set_option linter.unusedSimpArgs false
/-! handed: a plan is handed in, with looks, by what each call does. -/
namespace Go.Proofs.Ytkdnkjjnmadhgaa.Dev
open Go.RowKit Go.Maps Go.Lib

/-- A reply that was handed out. -/
def OutOf (B : Nat) (w : World) (r : Rp) (o : Ans) : Prop := r.pk = o.1.pk ∧ r.at_ = o.2.1 ∧ r.res = o.2.2.1 ∧ r.ord = o.1.ord ∧ Held B 5 w r.dv o.2.2.2
/-- Rows of replies, the plan, and what nobody writes stay. -/
def Frame3 (w w' : World) : Prop := ∀ (k : Nat) (cur : Array Value) (ty : TypeId), w.heap[k]? = some (.cells cur ty (0, 0)) → (ty = 46 ∨ ty = 26 ∨ ty = 5) → w'.heap[k]? = w.heap[k]?
theorem Frame3.trans {a b c : World} (h : Frame3 a b) (k : Frame3 b c) : Frame3 a c := fun i cur ty hc ht => (k i cur ty ((h i cur ty hc ht).trans hc) ht).trans (h i cur ty hc ht)
theorem Frame3.below {a b : World} (h : Below a.heap.size a b) : Frame3 a b := fun i _ _ hc _ => h.block i (blt hc)
/-- What was handed out so far. -/
structure HOut (B base : Nat) (w : World) (v : Value) (rs : List Rp) (os : List Ans) : Prop where
  row : w.ownsRow base 46 4 v rs.length (rs.flatMap encO)
  ans : All2 (OutOf B w) rs os
theorem HOut.keep {B base : Nat} {w w' : World} {v : Value} {rs : List Rp} {os : List Ans} (h : HOut B base w v rs os) (hf : Frame3 w w') (hb : ∀ k, k < B → w'.heap[k]? = w.heap[k]?) : HOut B base w' v rs os := by
  refine ⟨own_keep h.row fun k hk hl => ?_, h.ans.mono fun r o hh => ⟨hh.1, hh.2.1, hh.2.2.1, hh.2.2.2.1, hh.2.2.2.2.keep fun k hk ho => ?_⟩⟩
  · obtain ⟨_, cur, hc⟩ := own_block h.row hk
    exact hf k cur 46 hc (.inl rfl)
  · rcases ho with ho | ⟨cur, ho⟩
    · exact hb k ho
    · exact hf k cur 5 ho (.inr (.inr rfl))
/-- A plan in memory. -/
structure PlanAt (w : World) (B : Nat) (Ar Ad At : Option Addr) (n : Nat) (rq : Nat → Int × Int × Int × Int × Sl) (dev at_ : Nat → Int) : Prop where
  ex : 0 < n → ∃ gr gd gt, Ar = some ⟨gr, 0, none⟩ ∧ Ad = some ⟨gd, 0, none⟩ ∧ At = some ⟨gt, 0, none⟩ ∧ PlanRep w B gr gd gt n rq dev at_
/-- Looks in memory. -/
structure LooksAt (w : World) (B : Nat) (Al : Option Addr) (m : Nat) (lk : Nat → Int) : Prop where
  ex : 0 < m → ∃ gl, Al = some ⟨gl, 0, none⟩ ∧ gl < B ∧ ∀ k, k < m → w.cell? ⟨gl, k, none⟩ = some (.int .i64 (lk k))

/-- How a plan is handed in, without memory: R i k s os: i requests and, of the looks ahead of the next, k are done. -/
structure Road {σ : Type} (R : Nat → Nat → σ → List Ans → Prop) (n m : Nat) (at_ lk : Nat → Int) (sendF : Nat → σ → σ) (untilF : Int → σ → σ) (outF : Int → σ → List Ans) : Prop where
  look : ∀ i k s os, i < n → k < m → R i k s os → (lk k ≤ at_ i ∧ (i = 0 ∨ at_ (i - 1) ≤ lk k)) → R i (k + 1) (untilF (lk k) s) (os ++ outF (lk k) s)
  skip : ∀ i k s os, i < n → k < m → R i k s os → ¬ (lk k ≤ at_ i ∧ (i = 0 ∨ at_ (i - 1) ≤ lk k)) → R i (k + 1) s os
  next : ∀ i s os, i < n → R i m s os → R (i + 1) 0 (sendF i s) os
  few : ∀ i k s os, R i k s os → os.length ≤ 100000
  last : ∀ s os, R n 0 s os → (os ++ outF 1000000000 s).length ≤ 100000

/-- Behind i requests and k looks. -/
structure HandL {σ : Type} (w : World) (pb : Nat) (pc : Array Value) (R : Nat → Nat → σ → List Ans → Prop) (St : σ → World → Prop) (i k : Nat) (v : Value) (wr : World) : Prop where
  ex : ∃ s os rs, R i k s os ∧ St s wr ∧ HOut w.heap.size w.heap.size wr v rs os
  plan : wr.heap[pb]? = some (.cells pc 26 (0, 0))

theorem encO_one (l : List Rp) : ∀ u ∈ l.flatMap encO, u.oneCell' = true := fun u hu => by
  obtain ⟨x, _, hx⟩ := List.mem_flatMap.1 hu
  exact one_O x u hx
/-- Two rows of replies, joined. -/
theorem HOut.join {B base : Nat} {w w' : World} {v v' : Value} {rs1 rs2 : List Rp} {os1 os2 : List Ans} (h1 : HOut B base w v rs1 os1) (h2 : All2 (OutOf B w) rs2 os2) (hB : B ≤ base)
    (hrow : w'.ownsRow base 46 4 v' (rs1.length + rs2.length) (rs1.flatMap encO ++ rs2.flatMap encO)) (hg : w.grownBy w' v.ownBlock) : HOut B base w' v' (rs1 ++ rs2) (os1 ++ os2) := by
  have hk : ∀ r o, OutOf B w r o → OutOf B w' r o := fun r o hh => ⟨hh.1, hh.2.1, hh.2.2.1, hh.2.2.2.1, hh.2.2.2.2.keep fun k hk ho => hg.block k hk fun e => by
    obtain ⟨hb, cur, hc⟩ := own_block h1.row e.symm
    rcases ho with ho | ⟨cur', ho⟩
    · omega
    · rw [hc] at ho
      simp at ho⟩
  refine ⟨by simpa using hrow, ⟨by simp [h1.ans.1, h2.1], fun i x y hx hy => ?_⟩⟩
  by_cases hi : i < rs1.length
  · rw [List.getElem?_append_left hi] at hx
    rw [List.getElem?_append_left (by rw [← h1.ans.1]; exact hi)] at hy
    exact hk _ _ (h1.ans.2 i x y hx hy)
  · rw [List.getElem?_append_right (by omega)] at hx
    rw [List.getElem?_append_right (by rw [← h1.ans.1]; omega), ← h1.ans.1] at hy
    exact hk _ _ (h2.2 _ x y hx hy)
theorem grown_frame {w w' : World} {base n : Nat} {v : Value} {xs : List Value} {k : Nat} {cur : Array Value} {ty : TypeId} (h : w.ownsRow base 46 4 v n xs) (hg : w.grownBy w' v.ownBlock) (hc : w.heap[k]? = some (.cells cur ty (0, 0))) (ht : ty ≠ 46) : w'.heap[k]? = some (.cells cur ty (0, 0)) :=
  (hg.block k (blt hc) fun e => own_ty h hc ht e.symm).trans hc
set_option maxHeartbeats 4000000 in
set_option maxRecDepth 100000 in
theorem handed_ok {σ : Type} (w : World) (cv : Value) (Ar Ad At Al : Option Addr) (n nr nd nt m nl b : Nat) (rq : Nat → Int × Int × Int × Int × Sl) (dev at_ lk : Nat → Int) (hP : PlanAt w w.heap.size Ar Ad At n rq dev at_) (hLk : LooksAt w w.heap.size Al m lk) (hn : n ≤ 100000) (hm : m ≤ 100000)
        (R : Nat → Nat → σ → List Ans → Prop) (sendF : Nat → σ → σ) (untilF : Int → σ → σ) (outF : Int → σ → List Ans) (hR : Road R n m at_ lk sendF untilF outF)
    (St : σ → World → Prop) (s0 : σ) (hR0 : R 0 0 s0 [])
    (hnew : ∀ W, Below w.heap.size w W → W.heap.size = w.heap.size + 1 → Calls Try.prog 23 #[cv] W fun e w' => e = .returned (.tuple #[ptr b, .int .i64 0]) ∧ St s0 w' ∧ Below W.heap.size W w')
    (hst : ∀ s wr, St s wr → Below w.heap.size w wr) (hgo : ∀ s wr w', St s wr → Touch wr w' (fun k => w.heap.size ≤ k ∧ ∃ cur, wr.heap[k]? = some (.cells cur 46 (0, 0))) → St s w')
    (hsend : ∀ i s os wr, i < n → R i m s os → St s wr → Calls Try.prog 28 #[ptr b, .int .i64 (dev i), .int .i64 (at_ i), .agg (reqC (rq i)).toArray] wr fun e w' => e = .returned (.int .i64 0) ∧ St (sendF i s) w' ∧ Frame3 wr w')
    (huntil : ∀ t i k s os wr, R i k s os → St s wr → ((i < n ∧ k < m ∧ t = lk k ∧ (lk k ≤ at_ i ∧ (i = 0 ∨ at_ (i - 1) ≤ lk k))) ∨ (i = n ∧ t = 1000000000)) → Calls Try.prog 29 #[ptr b, .int .i64 t] wr fun e w' => ∃ (v : Sl) (rs : List Rp), e = .returned (slv v) ∧ HOut w.heap.size wr.heap.size w' (slv v) rs (outF t s) ∧ St (untilF t s) w' ∧ Frame3 wr w') :
    Calls Try.prog 17 #[cv, .agg #[.slice Ar n nr, .slice Ad n nd, .slice At n nt], .slice Al m nl] w fun e w' => ∃ (v : Value) (s : σ) (os : List Ans) (rs : List Rp), e = .returned (.tuple #[v, ptr b, .bool true]) ∧ R n 0 s os ∧ St (untilF 1000000000 s) w' ∧ HOut w.heap.size w.heap.size w' v rs (os ++ outF 1000000000 s) := by
  obtain ⟨W, hW⟩ : ∃ W, W = w.alloc (.cells #[.slice Ar n nr, .slice Ad n nd, .slice At n nt] 26) := ⟨_, rfl⟩
  have hbw : Below w.heap.size w W := by rw [hW]; exact (Below.refl _ _).alloc (Nat.le_refl _) _
  have gb : W.heap[w.heap.size]? = some (.cells #[.slice Ar n nr, .slice Ad n nd, .slice At n nt] 26 (0, 0)) := by rw [hW]; exact alloc_new _ _
  have C23 := Lib.hid (hnew W hbw (by rw [hW]; simp))
  have HP := Lib.hid hP
  have HLK := Lib.hid hLk
  have HR := Lib.hid hR
  have HR0 := Lib.hid hR0
  have HST := Lib.hid hst
  have HGO := Lib.hid hgo
  have HSEND := Lib.hid hsend
  have HUNTIL := Lib.hid huntil
  have HN := Lib.hid hn
  have HM := Lib.hid hm
  have HB := Lib.hid hbw
  have GB := Lib.hid gb
  clear hbw gb hnew hP hLk hR hR0 hst hgo hsend huntil hn hm
  subst hW
  go_enter Try.func17, Try.ntmps17
  go_wp2_with (go_at_call 23; (with_reducible refine (C23.out).mono ?_); rintro e w1 ⟨rfl, h1, hb1⟩; have g1 := (hb1.block _ (blt GB.out)).trans GB.out; have y0 : w1.cell? ⟨w.heap.size, 0, none⟩ = some (.slice Ar n nr) := (cell_of g1 0).trans rfl; have y1 : w1.cell? ⟨w.heap.size, 1, none⟩ = some (.slice Ad n nd) := (cell_of g1 1).trans rfl; have y2 : w1.cell? ⟨w.heap.size, 2, none⟩ = some (.slice At n nt) := (cell_of g1 2).trans rfl; have G1 := Lib.hid g1; have H1 := Lib.hid h1; clear h1 hb1 g1)
  go_loopw [11, 12] (fun v i wr => ∃ j : Nat, j ≤ n ∧ i = .int .i64 j ∧ HandL w w.heap.size #[.slice Ar n nr, .slice Ad n nd, .slice At n nt] R St j 0 v wr) (fun _ i _ => n - (intOf i).toNat)
  case atStart => exact ⟨0, Nat.zero_le _, rfl, ⟨s0, [], [], HR0.out, H1.out, owns_none, All2.nil_⟩, G1.out⟩
  case round =>
    obtain ⟨j, hj, rfl, hH⟩ := hrel
    have y0 : wr.cell? ⟨w.heap.size, 0, none⟩ = some (.slice Ar n nr) := (cell_of hH.plan 0).trans rfl
    by_cases hlt : j < n
    · as_aux_lemma =>
        have hd : decide ((j : Int) < (n : Int)) = true := by simpa using hlt
        obtain ⟨gr, gd, gt, rfl, rfl, rfl, hpl⟩ := HP.out.ex (by omega)
        have HPL := Lib.hid hpl
        have HH := Lib.hid hH
        clear hH hpl
        go_upto_block 2 with (fail)
        go_cut [11] from 39 to 86 (fun v wx => HandL w w.heap.size #[.slice (some ⟨gr, 0, none⟩) n nr, .slice (some ⟨gd, 0, none⟩) n nd, .slice (some ⟨gt, 0, none⟩) n nt] R St j m v wx)
        case first =>
          as_aux_lemma =>
            go_wp2_with fail
            go_loopw [11, 13] (fun v i wx => ∃ k : Nat, k ≤ m ∧ i = .int .i64 k ∧ HandL w w.heap.size #[.slice (some ⟨gr, 0, none⟩) n nr, .slice (some ⟨gd, 0, none⟩) n nd, .slice (some ⟨gt, 0, none⟩) n nt] R St j k v wx) (fun _ i _ => m - (intOf i).toNat)
            case atStart => exact ⟨0, Nat.zero_le _, rfl, HH.out⟩
            case round =>
              clear y0
              obtain ⟨k, hk, rfl, hH⟩ := hrel
              by_cases hkm : k < m
              · as_aux_lemma =>
                  have hd2 : decide ((k : Int) < (m : Int)) = true := by simpa using hkm
                  obtain ⟨gl, rfl, hgl, hlk⟩ := HLK.out.ex (by omega)
                  obtain ⟨s, os, rs, hRk, hS, hO⟩ := hH.ex
                  have hb := HST.out s wr hS
                  have l0 : wr.cell? ⟨gl, k, none⟩ = some (.int .i64 (lk k)) := (hb.cell hgl).trans (hlk k hkm)
                  have t0 : wr.cell? ⟨gt, j, none⟩ = some (.int .i64 (at_ j)) := (hb.cell HPL.out.bt).trans (HPL.out.t j hlt)
                  have y2 : wr.cell? ⟨w.heap.size, 2, none⟩ = some (.slice (some ⟨gt, 0, none⟩) n nt) := (cell_of hH.plan 2).trans rfl
                  have t1 : 0 < j → wr.cell? ⟨gt, j - 1, none⟩ = some (.int .i64 (at_ (j - 1))) := fun h0 => (hb.cell HPL.out.bt).trans (HPL.out.t (j - 1) (by omega))
                  have HPLAN := Lib.hid hH.plan
                  have HRK := Lib.hid hRk
                  have HS := Lib.hid hS
                  have HO := Lib.hid hO
                  have HBW := Lib.hid hb
                  clear hH hRk hS hO hb hlk hgl
                  go_upto_region 11 with (fail)
                  go_cut [78] from 52 to 78 (fun s78 wy => s78 = .bool (decide (lk k ≤ at_ j ∧ (j = 0 ∨ at_ (j - 1) ≤ lk k))) ∧ ∃ q, wy = wr.drewN q)
                  case first =>
                    by_cases h1 : lk k ≤ at_ j
                    · have e1 : decide (lk k ≤ at_ j) = true := by simpa using h1
                      by_cases h2 : j = 0
                      · as_aux_lemma =>
                          have E3 := Lib.hid (show decide (lk k ≤ at_ j ∧ (j = 0 ∨ at_ (j - 1) ≤ lk k)) = true from decide_eq_true ⟨h1, .inl h2⟩)
                          subst h2
                          clear t1 h1
                          go_quiet (fail)
                          go_wp2_with fail
                          go_meet
                          case rel => exact ⟨by rw [E3.out], _, rfl⟩
                      · have t1 := t1 (by omega)
                        have q1 : ((j : Int) == 0) = false := by simp; omega
                        have q2 : IntKind.i64.wrap ((j : Int) - 1) = (j : Int) - 1 := by have := HN.out; rw [IntKind.wrap_i64]; omega
                        have q3 : (0 : Int) ≤ (j : Int) - 1 := by omega
                        have q4 : (j : Int) - 1 < (n : Int) := by omega
                        by_cases h3 : at_ (j - 1) ≤ lk k
                        · as_aux_lemma =>
                            have E3 := Lib.hid (show decide (lk k ≤ at_ j ∧ (j = 0 ∨ at_ (j - 1) ≤ lk k)) = true from decide_eq_true ⟨h1, .inr h3⟩)
                            have e2 : decide (at_ (j - 1) ≤ lk k) = true := by simpa using h3
                            clear h1 h2 h3
                            go_quiet (fail)
                            go_wp2_with fail
                            go_meet
                            case rel => exact ⟨by rw [E3.out], _, rfl⟩
                        · as_aux_lemma =>
                            have E3 := Lib.hid (show decide (lk k ≤ at_ j ∧ (j = 0 ∨ at_ (j - 1) ≤ lk k)) = false from decide_eq_false fun h => h.2.elim h2 h3)
                            have e2 : decide (at_ (j - 1) ≤ lk k) = false := by simpa using h3
                            clear h1 h2 h3
                            go_quiet (fail)
                            go_wp2_with fail
                            go_meet
                            case rel => exact ⟨by rw [E3.out], _, rfl⟩
                    · as_aux_lemma =>
                        have E3 := Lib.hid (show decide (lk k ≤ at_ j ∧ (j = 0 ∨ at_ (j - 1) ≤ lk k)) = false from decide_eq_false fun h => h1 h.1)
                        have e1 : decide (lk k ≤ at_ j) = false := by simpa using h1
                        clear t1 h1
                        go_quiet (fail)
                        go_wp2_with fail
                        go_meet
                        case rel => exact ⟨by rw [E3.out], _, rfl⟩
                  case rest =>
                    obtain ⟨rfl, qn, hwc⟩ := hcut
                    have hwb : Below wr.heap.size wr wc := by rw [hwc]; exact below_drewN (Below.refl _ _) _
                    have hS2 := HGO.out s wr wc HS.out (Touch.of_below hwb)
                    have hO2 := HO.out.keep (Frame3.below hwb) fun i hi => hwb.block i (Nat.lt_of_lt_of_le hi HBW.out.size)
                    have hpl2 := (hwb.block _ (blt HPLAN.out)).trans HPLAN.out
                    have HS2 := Lib.hid hS2
                    have HO2 := Lib.hid hO2
                    have HPL2 := Lib.hid hpl2
                    have l0 : wc.cell? ⟨gl, k, none⟩ = some (.int .i64 (lk k)) := (hwb.cell (lt_of_cell l0)).trans l0
                    clear hwc hwb hS2 hO2 hpl2 t0 t1 y2 HS HO
                    by_cases hc : lk k ≤ at_ j ∧ (j = 0 ∨ at_ (j - 1) ≤ lk k)
                    · as_aux_lemma =>
                        rw [decide_eq_true hc]
                        have hfew := HR.out.few _ _ _ _ (HR.out.look j k s os hlt hkm HRK.out hc)
                        have HCC := Lib.hid hc
                        have C29 := Lib.hid (HUNTIL.out (lk k) j k s os wc HRK.out HS2.out (.inl ⟨hlt, hkm, rfl, hc⟩))
                        obtain ⟨i0, hi, hz0, hz1, hz2⟩ := info_parts infoA46
                        have HFEW := Lib.hid hfew
                        clear hc hfew
                        go_wp2_with (first | (go_at_call 29; (with_reducible refine (C29.out).mono ?_); rintro e w5 ⟨⟨va, vn, vc⟩, rs5, rfl, ho5, hs5, hf5⟩; (obtain ⟨va', vc', hve⟩ := own_form ho5.row); (obtain rfl : vn = rs5.length := by injection hve); have hO6 := HO2.out.keep hf5 (fun i hi => ((HST.out _ _ hs5).block i hi).trans ((HST.out s wc HS2.out).block i hi).symm); have hrd5 := Reads.of_own ho5.row; have hbd : rs.length + rs5.length ≤ 100000 := (by have h1 := HFEW.out; rw [List.length_append, ← hO6.ans.1, ← ho5.ans.1] at h1; exact h1); have hsz : w.heap.size ≤ w5.heap.size := (HST.out _ _ hs5).size; have HO5 := Lib.hid ho5.ans; have HO6 := Lib.hid hO6; have HRD5 := Lib.hid hrd5; have HBD := Lib.hid hbd; have HSZ := Lib.hid hsz; have HS5 := Lib.hid hs5; have HF5 := Lib.hid hf5; clear ho5 hs5 hf5 hve hO6 hrd5 hbd hsz) |
                          (at_builtin; refine wpList_append_any _ rfl _ _ 30 rfl w.heap.size 46 i0 (.agg #[.int .i64 0, .int .i64 0, .int .i64 0, .slice none 0 0]) 4 48 Try.underlying30 hi hz0 hz1 hz2 rfl (by decide) _ rs.length (rs.flatMap encO) rfl HO6.out.row _ va rs5.length vc (rs5.flatMap encO) rfl HRD5.out (encO_one rs5) (by have := HBD.out; unfold maxLen; omega) (by have := HBD.out; omega) HSZ.out ?_; intro v' w6 hrow6 hgrow6 hloc6; have HROW6 := Lib.hid hrow6; have HGROW6 := Lib.hid hgrow6; clear hrow6 hgrow6 hloc6))
                        case roundEnd =>
                          have e : wrap64 ((k : Int) + 1) = ((k + 1 : Nat) : Int) := by
                            have := HM.out
                            unfold wrap64; omega
                          refine ⟨⟨k + 1, hkm, by rw [e], ⟨⟨_, _, rs ++ rs5, HR.out.look j k s os hlt hkm HRK.out HCC.out, HGO.out _ w5 w6 HS5.out ((Touch.grown HGROW6.out).mono fun i _ e => own_block HO6.out.row e.symm), HOut.join HO6.out HO5.out (Nat.le_refl _) HROW6.out HGROW6.out⟩, ?_⟩⟩, ?_⟩
                          · exact grown_frame HO6.out.row HGROW6.out ((HF5.out _ _ 26 HPL2.out (.inr (.inl rfl))).trans HPL2.out) (by decide)
                          · rw [e]
                            show m - (k + 1) < m - k
                            omega
                    · as_aux_lemma =>
                        rw [decide_eq_false hc]
                        have HCC := Lib.hid hc
                        clear hc
                        go_wp2_with fail
                        go_roundw
                        case rel =>
                          have e : wrap64 ((k : Int) + 1) = ((k + 1 : Nat) : Int) := by
                            have := HM.out
                            unfold wrap64; omega
                          exact ⟨k + 1, hkm, by rw [e], ⟨s, os, rs, HR.out.skip j k s os hlt hkm HRK.out HCC.out, HS2.out, HO2.out⟩, HPL2.out⟩
                        case measure =>
                          have e : wrap64 ((k : Int) + 1) = ((k + 1 : Nat) : Int) := by
                            have := HM.out
                            unfold wrap64; omega
                          show m - (intOf (.int .i64 (wrap64 ((k : Int) + 1)))).toNat < m - (intOf (.int .i64 (k : Int))).toNat
                          rw [e]
                          show m - (k + 1) < m - k
                          omega
              · as_aux_lemma =>
                  have hkn : k = m := by omega
                  subst hkn
                  have hd2 : decide ((k : Int) < (k : Int)) = false := by simp
                  have HH2 := Lib.hid hH
                  clear hH
                  go_wp2_with fail
                  go_meet
                  case rel => exact HH2.out
        case rest =>
          as_aux_lemma =>
            obtain ⟨s, os, rs, hRm, hS, hO⟩ := hcut.ex
            have hb := HST.out s wc hS
            have hpln := hcut.plan
            clear y0 HH
            have y0 : wc.cell? ⟨w.heap.size, 0, none⟩ = some (.slice (some ⟨gr, 0, none⟩) n nr) := (cell_of hpln 0).trans rfl
            have y1 : wc.cell? ⟨w.heap.size, 1, none⟩ = some (.slice (some ⟨gd, 0, none⟩) n nd) := (cell_of hpln 1).trans rfl
            have y2 : wc.cell? ⟨w.heap.size, 2, none⟩ = some (.slice (some ⟨gt, 0, none⟩) n nt) := (cell_of hpln 2).trans rfl
            have r0 := (hb.cell (p := ⟨gr, j * 5, none⟩) HPL.out.br).trans (HPL.out.r j hlt 0 (by decide))
            have r1 := (hb.cell (p := ⟨gr, j * 5 + 1, none⟩) HPL.out.br).trans (HPL.out.r j hlt 1 (by decide))
            have r2 := (hb.cell (p := ⟨gr, j * 5 + 2, none⟩) HPL.out.br).trans (HPL.out.r j hlt 2 (by decide))
            have r3 := (hb.cell (p := ⟨gr, j * 5 + 3, none⟩) HPL.out.br).trans (HPL.out.r j hlt 3 (by decide))
            have r4 := (hb.cell (p := ⟨gr, j * 5 + 4, none⟩) HPL.out.br).trans (HPL.out.r j hlt 4 (by decide))
            simp only [reqC, List.getElem?_cons_zero, List.getElem?_cons_succ] at r0 r1 r2 r3 r4
            have d0 := (hb.cell (p := ⟨gd, j, none⟩) HPL.out.bd).trans (HPL.out.d j hlt)
            have t0 := (hb.cell (p := ⟨gt, j, none⟩) HPL.out.bt).trans (HPL.out.t j hlt)
            have hSd : St s wc.drew := HGO.out s wc _ hS (Touch.drew _ _)
            have C28 := Lib.hid (HSEND.out j s os wc.drew hlt hRm hSd)
            have HRM := Lib.hid hRm
            have HS := Lib.hid hS
            have HO := Lib.hid hO
            have HPLN := Lib.hid hpln
            clear hcut hRm hS hO hpln hSd hb
            go_upto_region 13 with (fail)
            obtain ⟨C, hCd⟩ : ∃ C : World → Prop, ∀ z, C z ↔ (z.cell? ⟨w.heap.size, 0, none⟩ = some (.slice (some ⟨gr, 0, none⟩) n nr) ∧ z.cell? ⟨w.heap.size, 1, none⟩ = some (.slice (some ⟨gd, 0, none⟩) n nd) ∧ z.cell? ⟨w.heap.size, 2, none⟩ = some (.slice (some ⟨gt, 0, none⟩) n nt) ∧ z.cell? ⟨gr, j * 5, none⟩ = some (.int .i64 (rq j).1) ∧ z.cell? ⟨gr, j * 5 + 1, none⟩ = some (.int .i64 (rq j).2.1) ∧ z.cell? ⟨gr, j * 5 + 2, none⟩ = some (.int .i64 (rq j).2.2.1) ∧ z.cell? ⟨gr, j * 5 + 3, none⟩ = some (.int .i64 (rq j).2.2.2.1) ∧ z.cell? ⟨gr, j * 5 + 4, none⟩ = some (.slice (rq j).2.2.2.2.1 (rq j).2.2.2.2.2.1 (rq j).2.2.2.2.2.2) ∧ z.cell? ⟨gd, j, none⟩ = some (.int .i64 (dev j)) ∧ z.cell? ⟨gt, j, none⟩ = some (.int .i64 (at_ j))) := ⟨_, fun _ => Iff.rfl⟩
            have s0' := fun s : {z : World // C z} => ((hCd s.1).1 s.2).1
            have s1' := fun s : {z : World // C z} => ((hCd s.1).1 s.2).2.1
            have s2' := fun s : {z : World // C z} => ((hCd s.1).1 s.2).2.2.1
            have s3' := fun s : {z : World // C z} => ((hCd s.1).1 s.2).2.2.2.1
            have s4' := fun s : {z : World // C z} => ((hCd s.1).1 s.2).2.2.2.2.1
            have s5' := fun s : {z : World // C z} => ((hCd s.1).1 s.2).2.2.2.2.2.1
            have s6' := fun s : {z : World // C z} => ((hCd s.1).1 s.2).2.2.2.2.2.2.1
            have s7' := fun s : {z : World // C z} => ((hCd s.1).1 s.2).2.2.2.2.2.2.2.1
            have s8' := fun s : {z : World // C z} => ((hCd s.1).1 s.2).2.2.2.2.2.2.2.2.1
            have s9' := fun s : {z : World // C z} => ((hCd s.1).1 s.2).2.2.2.2.2.2.2.2.2
            have hC0 := (hCd wc.drew).2 ⟨y0, y1, y2, r0, r1, r2, r3, r4, d0, t0⟩
            haveI : Nonempty {z : World // C z} := ⟨⟨wc.drew, hC0⟩⟩
            refine Mix.wp_region_mix C [16] (by kernel_rfl) (by kernel_rfl) hC0 ?_
            have HCD := Lib.hid hCd
            have HC0 := Lib.hid hC0
            clear hCd hC0 y0 y1 y2 r0 r1 r2 r3 r4 d0 t0
            repeat (refine Mix.mix_still rfl (fun K hK => ?_); go_simp; refine hK _ ?_; clear hK K)
            refine Mix.mix_eff rfl ?_
            go_wp2_with (go_at_call 28; (with_reducible refine (C28.out).mono ?_); rintro e w4 ⟨rfl, h4, hf4⟩; have H4 := Lib.hid h4; have HF4 := Lib.hid hf4; clear h4 hf4)
            have hb4 : Below w.heap.size w w4 := HST.out _ w4 H4.out
            have hpl4 := (HF4.out _ _ 26 HPLN.out (.inr (.inl rfl))).trans HPLN.out
            have hO4 := HO.out.keep HF4.out fun i hi => (hb4.block i hi).trans ((HST.out s wc HS.out).block i hi).symm
            have hk4 : ∀ {g j : Nat} {v : Value}, g < w.heap.size → w.cell? ⟨g, j, none⟩ = some v → w4.cell? ⟨g, j, none⟩ = some v := fun hg hv => (hb4.cell (p := ⟨_, _, none⟩) hg).trans hv
            refine ⟨(HCD.out _).2 ⟨(cell_of hpl4 0).trans rfl, (cell_of hpl4 1).trans rfl, (cell_of hpl4 2).trans rfl, hk4 HPL.out.br (HPL.out.r j hlt 0 (by decide)), hk4 HPL.out.br (HPL.out.r j hlt 1 (by decide)), hk4 HPL.out.br (HPL.out.r j hlt 2 (by decide)), hk4 HPL.out.br (HPL.out.r j hlt 3 (by decide)), hk4 HPL.out.br (HPL.out.r j hlt 4 (by decide)), hk4 HPL.out.bd (HPL.out.d j hlt), hk4 HPL.out.bt (HPL.out.t j hlt)⟩, ?_⟩
            have HPL4 := Lib.hid hpl4
            have HO4 := Lib.hid hO4
            clear hb4 hpl4 hO4 hk4
            repeat (refine Mix.mix_still rfl (fun K hK => ?_); go_simp; refine hK _ ?_; clear hK K)
            refine Mix.mix_nil ?_
            go_wp2_with fail
            go_roundw
            case rel =>
              have e : wrap64 ((j : Int) + 1) = ((j + 1 : Nat) : Int) := by
                have := HN.out
                unfold wrap64; omega
              exact ⟨j + 1, hlt, by rw [e], ⟨_, os, rs, HR.out.next j s os hlt HRM.out, H4.out, HO4.out⟩, HPL4.out⟩
            case measure =>
              have e : wrap64 ((j : Int) + 1) = ((j + 1 : Nat) : Int) := by
                have := HN.out
                unfold wrap64; omega
              show n - (intOf (.int .i64 (wrap64 ((j : Int) + 1)))).toNat < n - (intOf (.int .i64 (j : Int))).toNat
              rw [e]
              show n - (j + 1) < n - j
              omega
    · as_aux_lemma =>
        have hjn : j = n := by omega
        subst hjn
        have hd : decide ((j : Int) < (j : Int)) = false := by simp
        obtain ⟨s, os, rs, hRk, hS, hO⟩ := hH.ex
        have C29 := Lib.hid (HUNTIL.out 1000000000 j 0 s os wr hRk hS (.inr ⟨rfl, rfl⟩))
        obtain ⟨i0, hi, hz0, hz1, hz2⟩ := info_parts infoA46
        have hfew := HR.out.last _ _ hRk
        have HRK := Lib.hid hRk
        have HS := Lib.hid hS
        have HO := Lib.hid hO
        have HFEW := Lib.hid hfew
        clear hH hRk hS hO hfew
        go_wp2_with (first | (go_at_call 29; (with_reducible refine (C29.out).mono ?_); rintro e w5 ⟨⟨va, vn, vc⟩, rs5, rfl, ho5, hs5, hf5⟩; (obtain ⟨va', vc', hve⟩ := own_form ho5.row); (obtain rfl : vn = rs5.length := by injection hve); have hO6 := HO.out.keep hf5 (fun i hi => ((HST.out _ _ hs5).block i hi).trans ((HST.out s wr HS.out).block i hi).symm); have hrd5 := Reads.of_own ho5.row; have hbd : rs.length + rs5.length ≤ 100000 := (by have h1 := HFEW.out; rw [List.length_append, ← hO6.ans.1, ← ho5.ans.1] at h1; exact h1); have hsz : w.heap.size ≤ w5.heap.size := (HST.out _ _ hs5).size; have HO5 := Lib.hid ho5.ans; have HO6 := Lib.hid hO6; have HRD5 := Lib.hid hrd5; have HBD := Lib.hid hbd; have HSZ := Lib.hid hsz; have HS5 := Lib.hid hs5; clear ho5 hs5 hf5 hve hO6 hrd5 hbd hsz) |
          (at_builtin; refine wpList_append_any _ rfl _ _ 30 rfl w.heap.size 46 i0 (.agg #[.int .i64 0, .int .i64 0, .int .i64 0, .slice none 0 0]) 4 48 Try.underlying30 hi hz0 hz1 hz2 rfl (by decide) _ rs.length (rs.flatMap encO) rfl HO6.out.row _ va rs5.length vc (rs5.flatMap encO) rfl HRD5.out (encO_one rs5) (by have := HBD.out; unfold maxLen; omega) (by have := HBD.out; omega) HSZ.out ?_; intro v' w6 hrow6 hgrow6 hloc6; have HROW6 := Lib.hid hrow6; have HGROW6 := Lib.hid hgrow6; clear hrow6 hgrow6 hloc6))
        go_ret3
        exact ⟨_, s, os, rs ++ rs5, rfl, HRK.out, HGO.out _ w5 w6 HS5.out ((Touch.grown HGROW6.out).mono fun i _ e => own_block HO6.out.row e.symm), HOut.join HO6.out HO5.out (Nat.le_refl _) HROW6.out HGROW6.out⟩
end Go.Proofs.Ytkdnkjjnmadhgaa.Dev
