import Derived.Test.YtkdnkjjnmadhgaaDU
set_option linter.unusedVariables false
set_option linter.unusedSimpArgs false
/-! Replies are taken from a bus. -/
namespace Go.Proofs.Ytkdnkjjnmadhgaa.Dev
open Go.RowKit Go.Maps Go.Lib

/-- A reply as it is handed out. -/
def sliceLen : Value → Nat
  | .slice _ n _ => n
  | _ => 0
def encO (x : Rp) : List Value := [.int .i64 x.pk, .int .i64 x.at_, .int .i64 x.res, slv x.dv]
theorem infoA46 : (Try.prog.info? 46).map (fun i => (i.zero, i.size, i.bytes)) = some (some (.agg #[.int .i64 0, .int .i64 0, .int .i64 0, .slice none 0 0]), 4, 48) := by kernel_rfl
theorem BRep.told {B : Nat} {w : World} {b : Nat} {m : BM} (h : BRep B w b m) (x : Int) : BRep B (w.setCell ⟨b, 3, none⟩ (.int .i64 x)) b { m with told := x } := by
  refine h.set m.now m.sent x ?_ (fun k hl hd _ => Below.heap_setCell w _ _ _ hd)
  have := set_same h.cells 3 (.int .i64 x)
  simpa using this
/-- What Until gives. -/
def UntilPost (B : Nat) (w : World) (b : Nat) (m : BM) (t : Int) (e : Ending) (w' : World) : Prop := ∃ (v : Sl) (j : Nat), e = .returned (slv v) ∧ j ≤ m.rs.length ∧ (∀ x ∈ m.rs.take j, x.at_ ≤ t) ∧ (∀ x l, m.rs.drop j = x :: l → t < x.at_) ∧
      w'.ownsRow w.heap.size 46 4 (slv v) j ((m.rs.take j).flatMap encO) ∧ Touch w w' (· = b) ∧
      ∃ vr : Sl, BRep B w' b { m with now := t, told := m.told + j, vr := vr, rs := m.rs.drop j } ∧ (oblock (slv vr) = oblock (slv m.vr) ∨ oblock (slv vr) = none)
theorem until_end {B b : Nat} {m : BM} {t : Int} {w wr : World} {vo vr : Sl} {j : Nat} (hle : j ≤ m.rs.length) (hearly : ∀ x ∈ m.rs.take j, x.at_ ≤ t) (hrow : wr.ownsRow w.heap.size 46 4 (slv vo) j ((m.rs.take j).flatMap encO))
    (htouch : Touch w wr (· = b)) (hb : b < w.heap.size) (hrep : BRep B wr b { m with now := t, vr := vr, rs := m.rs.drop j }) (hvr : oblock (slv vr) = oblock (slv m.vr) ∨ oblock (slv vr) = none) (hd : ∀ x l, m.rs.drop j = x :: l → t < x.at_) :
    UntilPost B w b m t (.returned (slv vo)) (wr.setCell ⟨b, 3, none⟩ (.int .i64 (m.told + j))) := by
  refine ⟨vo, j, rfl, hle, hearly, hd, own_keep hrow fun k hk _ => Below.heap_setCell wr _ _ _ (fun e => ?_), htouch.trans (Touch.setCell _ _ _ (S := (· = b)) rfl), vr, hrep.told (m.told + j), hvr⟩
  have e : k = b := e
  have := (own_block hrow hk).1
  omega
theorem new_readsO (w : World) (x : Rp) : Reads (w.alloc (.cells #[.int .i64 x.pk, .int .i64 x.at_, .int .i64 x.res, .slice x.dv.1 x.dv.2.1 x.dv.2.2] 46)) (w.heap.size + 1) 4 (some ⟨w.heap.size, 0, none⟩) 1 (encO x) :=
  ⟨rfl, fun _ => ⟨_, rfl, Nat.lt_succ_self _, fun i u hu => by rw [Addr.add_lit, Nat.zero_add, cell_of (alloc_new w _)]; simpa [encO] using hu⟩⟩
theorem one_O (x : Rp) : ∀ u ∈ encO x, u.oneCell' = true := fun u hu => by
  simp [encO] at hu
  rcases hu with rfl | rfl | rfl | rfl <;> rfl
/-- Behind j replies. -/
structure UntilL (B b : Nat) (m : BM) (t : Int) (w wr : World) (vo : Sl) (j : Nat) : Prop where
  le : j ≤ m.rs.length
  early : ∀ x ∈ m.rs.take j, x.at_ ≤ t
  row : wr.ownsRow w.heap.size 46 4 (slv vo) j ((m.rs.take j).flatMap encO)
  touch : Touch w wr (· = b)
  rep : ∃ vr : Sl, BRep B wr b { m with now := t, vr := vr, rs := m.rs.drop j } ∧ (oblock (slv vr) = oblock (slv m.vr) ∨ oblock (slv vr) = none)
theorem BRep.head {B : Nat} {w : World} {b : Nat} {m : BM} (h : BRep B w b m) {x : Rp} {l : List Rp} (hx : m.rs = x :: l) : ∃ g off, m.vr.1 = some ⟨g, off, none⟩ ∧ ∀ j, j < 6 → w.cell? ⟨g, off + j, none⟩ = (encR x)[j]? := by
  have hn := h.vrn
  have h0 : 0 < m.rs.length := by rw [hx]; simp
  have hr := h.rr
  have e : slv m.vr = .slice m.vr.1 m.rs.length m.vr.2.2 := by rw [← hn]
  rw [e] at hr
  obtain ⟨g, off, ha, _, _, hc⟩ := hr.cell h0
  refine ⟨g, off, ha, fun j hj => ?_⟩
  rw [hc j (by rw [hx]; simp only [List.length_cons]; omega), hx, List.flatMap_cons, List.getElem?_append_left (by show j < 6; exact hj)]

theorem drop_next {α : Type} {l r : List α} {j : Nat} {x : α} (h : l.drop j = x :: r) : j < l.length ∧ l.take (j + 1) = l.take j ++ [x] ∧ l.drop (j + 1) = r := by
  have hj : j < l.length := by
    rcases Nat.lt_or_ge j l.length with h1 | h1
    · exact h1
    · rw [List.drop_eq_nil_of_le h1] at h
      cases h
  have h2 := List.drop_eq_getElem_cons hj
  rw [h] at h2
  injection h2 with h3 h4
  exact ⟨hj, by rw [List.take_succ_eq_append_getElem hj, h3], h4.symm⟩
theorem until_next {B b : Nat} {m : BM} {t : Int} {w wr w3 : World} {vo : Sl} {j gr off vn vc c' : Nat} {A' : Option Addr} {x : Rp} {l : List Rp} (hL : UntilL B b m t w wr vo j)
    (hrep : BRep B wr b { m with now := t, vr := (some ⟨gr, off, none⟩, vn, vc), rs := m.rs.drop j }) (hvr : oblock (slv (some ⟨gr, off, none⟩, vn, vc)) = oblock (slv m.vr) ∨ oblock (slv (some ⟨gr, off, none⟩, vn, vc)) = none)
    (hbl : b < w.heap.size) (hdr : m.rs.drop j = x :: l) (hx : x.at_ ≤ t) (o : Obj)
    (hrow3 : w3.ownsRow w.heap.size 46 4 (.slice A' (j + 1) c') (j + 1) ((m.rs.take j).flatMap encO ++ encO x)) (hg3 : (wr.alloc o).grownBy w3 (slv vo).ownBlock) :
    UntilL B b m t w (w3.setCell ⟨b, 4, none⟩ (.slice (if vc = 1 then some ⟨gr, off, none⟩ else some ⟨gr, off + 6, none⟩) (vn - 1) (vc - 1))) (A', j + 1, c') (j + 1) := by
  obtain ⟨h1, h2, h3⟩ := drop_next hdr
  have hvn : vn = (x :: l).length := by rw [← hdr]; exact hrep.vrn
  have hob : ∀ k, k < w.heap.size → (slv vo).ownBlock ≠ some k := fun k hk e => by
    have := (own_block hL.row e).1
    omega
  have hkeep : ∀ k, k < wr.heap.size → (slv vo).ownBlock ≠ some k → w3.heap[k]? = wr.heap[k]? := fun k hk hn => (hg3.block k (by rw [World.size_alloc]; omega) (fun e => hn e.symm)).trans (Below.heap_alloc _ _ _ hk)
  have hb3 := (hkeep b (blt hrep.cells) (hob b hbl)).trans hrep.cells
  have hnb := hrep.vr_ne
  have hset := set_same hb3 4 (.slice (if vc = 1 then some ⟨gr, off, none⟩ else some ⟨gr, off + 6, none⟩) (vn - 1) (vc - 1))
  have key0 : ∀ k, k ≠ b → (w3.setCell ⟨b, 4, none⟩ (.slice (if vc = 1 then some ⟨gr, off, none⟩ else some ⟨gr, off + 6, none⟩) (vn - 1) (vc - 1))).heap[k]? = w3.heap[k]? := fun k hne => Below.heap_setCell w3 _ _ _ hne
  have ht0 : Touch w3 (w3.setCell ⟨b, 4, none⟩ (.slice (if vc = 1 then some ⟨gr, off, none⟩ else some ⟨gr, off + 6, none⟩) (vn - 1) (vc - 1))) (· = b) := Touch.setCell w3 _ _ (S := (· = b)) rfl
  obtain ⟨W', hW'⟩ : ∃ W', W' = w3.setCell ⟨b, 4, none⟩ (.slice (if vc = 1 then some ⟨gr, off, none⟩ else some ⟨gr, off + 6, none⟩) (vn - 1) (vc - 1)) := ⟨_, rfl⟩
  rw [← hW'] at hset key0 ht0 ⊢
  clear hW'
  have key : ∀ k, k < wr.heap.size → k ≠ b → (slv vo).ownBlock ≠ some k → W'.heap[k]? = wr.heap[k]? := fun k hk hne hno => (key0 k hne).trans (hkeep k hk hno)
  have hty : ∀ {k : Nat} {cur : Array Value} {ty : TypeId}, wr.heap[k]? = some (.cells cur ty (0, 0)) → ty ≠ 46 → (slv vo).ownBlock ≠ some k := fun hc ht e => own_ty hL.row hc ht e
  refine ⟨h1, ?_, ?_, ?_, ((if vc = 1 then some ⟨gr, off, none⟩ else some ⟨gr, off + 6, none⟩), vn - 1, vc - 1), ⟨hrep.low, ?_, ?_, ?_⟩, ?_⟩
  · rw [h2]
    intro y hy
    rcases List.mem_append.1 hy with hy | hy
    · exact hL.early y hy
    · rw [List.mem_singleton.1 hy]; exact hx
  · rw [h2, List.flatMap_append, List.flatMap_singleton]
    refine own_keep hrow3 fun k hk _ => key0 k (fun e => ?_)
    have := (own_block hrow3 hk).1
    omega
  · refine (hL.touch.andThen ((Touch.alloc wr o (fun k => (slv vo).ownBlock = some k)).trans ((Touch.grown hg3).mono fun k _ e => e.symm)) fun k hk e => absurd e (hob k hk)).trans ht0
  · simpa using hset
  · refine own_keep hrep.rd fun k hk hl => ?_
    obtain ⟨_, cur, hc⟩ := own_block hrep.rd hk
    exact key k hl (fun e => own_ty hrep.rd hrep.cells (by decide) (e ▸ hk)) (hty hc (by decide))
  · have hr := hrep.rr
    have e : slv (some ⟨gr, off, none⟩, vn, vc) = .slice (some ⟨gr, off, none⟩) (m.rs.drop j).length vc := by rw [hdr, ← hvn]
    simp only at hr
    rw [e] at hr
    have hc := hr.cut (k := 1) (by rw [hdr]; simp) (by decide)
    have h4 : (m.rs.drop (j + 1)).length = (m.rs.drop j).length - 1 := by rw [h3, hdr]; rfl
    have h5 : ((m.rs.drop j).flatMap encR).drop (1 * 6) = (m.rs.drop (j + 1)).flatMap encR := by
      rw [h3, hdr, List.flatMap_cons]
      rfl
    rw [h5] at hc
    have h6 : vn - 1 = (m.rs.drop j).length - 1 := by rw [hdr, ← hvn]
    show RowO _ B 95 6 (.slice (if vc = 1 then some ⟨gr, off, none⟩ else some ⟨gr, off + 6, none⟩) (vn - 1) (vc - 1)) (m.rs.drop (j + 1)).length _
    rw [h4, h6]
    refine RowO.keep (w := wr) ?_ fun k hk hl => ?_
    · have e9 : (if vc = 1 then some (⟨gr, off, none⟩ : Addr) else Option.map (fun x : Addr => x.add (1 * 6)) (some (⟨gr, off, none⟩ : Addr))) = (if vc = 1 then some ⟨gr, off, none⟩ else some ⟨gr, off + 6, none⟩) := by
        simp only [Option.map_some, Addr.add_lit]
      rw [e9] at hc
      exact hc
    · by_cases hv1 : vc = 1
      · subst hv1
        simp [oblock] at hk
      · rw [if_neg hv1] at hk
        obtain ⟨c, hcc⟩ : ∃ c, vc - 1 = c + 1 ∨ vc - 1 = 0 := ⟨vc - 2, by omega⟩
        rcases hcc with hcc | hcc
        · rw [hcc] at hk
          simp [oblock] at hk
          subst hk
          have ho : oblock (slv (some ⟨gr, off, none⟩, vn, vc)) = some gr := by
            rw [show vc = (vc - 1) + 1 by omega]
            rfl
          obtain ⟨_, cur, hh⟩ := hrep.rr.block ho
          exact key _ hl (fun e => hnb (by rw [← e]; exact ho)) (hty hh (by decide))
        · rw [hcc] at hk
          simp [oblock] at hk
  · by_cases hv1 : vc = 1
    · subst hv1
      exact .inr (by simp [oblock])
    · rw [if_neg hv1]
      obtain ⟨c, hcc⟩ : ∃ c, vc - 1 = c + 1 ∨ vc - 1 = 0 := ⟨vc - 2, by omega⟩
      rcases hcc with hcc | hcc
      · have ho : oblock (slv (some ⟨gr, off, none⟩, vn, vc)) = some gr := by
          rw [show vc = (vc - 1) + 1 by omega]
          rfl
        rw [ho] at hvr
        refine .inl ?_
        rcases hvr with hvr | hvr
        · rw [← hvr]
          show oblock (.slice (some ⟨gr, off + 6, none⟩) (vn - 1) (vc - 1)) = some gr
          rw [hcc]
          rfl
        · cases hvr
      · refine .inr ?_
        show oblock (.slice (some ⟨gr, off + 6, none⟩) (vn - 1) (vc - 1)) = none
        rw [hcc]
        rfl
set_option maxHeartbeats 2000000 in
set_option maxRecDepth 100000 in
theorem until_any (w : World) (B b : Nat) (m : BM) (h : BRep B w b m) (t : Int) (ht : m.now ≤ t) (hn : m.rs.length ≤ 100000) (htold : 0 ≤ m.told ∧ m.told ≤ 1000000) :
    Calls Try.prog 29 #[ptr b, .int .i64 t] w fun e w' => UntilPost B w b m t e w' := by
  obtain ⟨c0, c1, c2, c3, c4⟩ := h.all
  obtain ⟨f0, f1, f2, f3, f4⟩ := h.frees
  have d1 : decide (t < m.now) = false := by simpa using ht
  have hnow := h.now t
  have H := Lib.hid h
  have HN := Lib.hid hn
  have HT := Lib.hid htold
  have HNOW := Lib.hid hnow
  have HBL := Lib.hid (blt h.cells)
  clear h ht hn htold hnow
  go_enter Try.func29, Try.ntmps29
  go_wp2_with fail
  obtain ⟨i0, hi, hz0, hz1, hz2⟩ := info_parts infoA46
  go_loopw [5] (fun v wr => ∃ (vo : Sl) (j : Nat), v = slv vo ∧ UntilL B b m t w wr vo j) (fun v _ => m.rs.length - sliceLen v)
  case atStart => exact ⟨(none, 0, 0), 0, rfl, Nat.zero_le _, fun x hx => by simp at hx, owns_none, Touch.setCell _ _ _ (S := (· = b)) rfl, m.vr, HNOW.out, .inl rfl⟩
  case round =>
    obtain ⟨vo, j, rfl, hle, hearly, hrow, htouch, vr, hrep, hvr⟩ := hrel
    have hvn : vr.2.1 = (m.rs.drop j).length := hrep.vrn
    obtain ⟨b0, b1, b2, b3, b4⟩ := hrep.all
    obtain ⟨g0, g1, g2, g3, g4⟩ := hrep.frees
    have hov : vo.2.1 = j := by
      obtain ⟨a, c, e⟩ := own_form hrow
      injection e
    rcases hdr : m.rs.drop j with _ | ⟨x, l⟩
    · as_aux_lemma =>
        rw [hdr] at hvn
        obtain ⟨va, vn, vc⟩ := vr
        have hv0 : vn = 0 := hvn
        clear hvn
        subst hv0
        have k1 : wrap64 (m.told + (j : Int)) = m.told + j := by
          unfold wrap64
          have := HT.out
          have := HN.out
          omega
        have K1 := Lib.hid k1
        clear k1
        have HOV := Lib.hid hov
        have HREP := Lib.hid hrep
        have HROW := Lib.hid hrow
        have HTOUCH := Lib.hid htouch
        have HE := Lib.hid hearly
        have HVR := Lib.hid hvr
        have HLE := Lib.hid hle
        have HDR := Lib.hid hdr
        clear hrep hrow htouch hearly hvr hle hdr
        go_wp2_with fail
        go_ret
        rw [K1.out]
        exact until_end HLE.out HE.out HROW.out HTOUCH.out HBL.out HREP.out HVR.out (fun x l e => by rw [HDR.out] at e; cases e)
    · obtain ⟨gr, off, hva, hcell⟩ := hrep.head hdr
      have hva : vr.1 = some ⟨gr, off, none⟩ := hva
      have x0 : wr.cell? ⟨gr, off, none⟩ = some (.int .i64 x.pk) := hcell 0 (by omega)
      have x1 : wr.cell? ⟨gr, off + 1, none⟩ = some (.int .i64 x.at_) := hcell 1 (by omega)
      have x2 : wr.cell? ⟨gr, off + 2, none⟩ = some (.int .i64 x.res) := hcell 2 (by omega)
      have x3 : wr.cell? ⟨gr, off + 3, none⟩ = some (slv x.dv) := hcell 3 (by omega)
      have dd : decide (0 < (vr.2.1 : Int)) = true := by rw [hvn, hdr]; simp
      have hpos : 0 < vr.2.1 := by rw [hvn, hdr]; simp
      by_cases hx : x.at_ ≤ t
      · as_aux_lemma =>
          have dx : decide (x.at_ ≤ t) = true := by simpa using hx
          have HOV := Lib.hid hov
          have HREP := Lib.hid hrep
          have HROW := Lib.hid hrow
          have HTOUCH := Lib.hid htouch
          have HE := Lib.hid hearly
          have HVR := Lib.hid hvr
          have HLE := Lib.hid hle
          have HDR := Lib.hid hdr
          have HX := Lib.hid hx
          have HVN := Lib.hid hvn
          clear hrep hrow htouch hearly hvr hle hvn hdr hx hcell
          obtain ⟨va, vn, vc⟩ := vr
          have hva' : va = some ⟨gr, off, none⟩ := hva
          clear hva
          subst hva'
          have hl1 : ¬ ((vn : Int) < 1) := by have : 0 < vn := hpos; omega
          go_wp2_with (at_builtin; refine wpList_append_any _ rfl _ _ 30 rfl w.heap.size 46 i0 (.agg #[.int .i64 0, .int .i64 0, .int .i64 0, .slice none 0 0]) 4 48 Try.underlying30 hi hz0 hz1 hz2 rfl (by decide) (slv vo) j _ rfl (own_keep HROW.out fun k hk hl => Below.heap_alloc _ _ _ hl) _ (some ⟨_, 0, none⟩) 1 1 (encO x) rfl (new_readsO _ _) (one_O _) (by unfold maxLen; have h1 := HLE.out; have h2 := HN.out; omega) (by have h1 := HLE.out; have h2 := HN.out; omega) (by have h1 := HTOUCH.out.size; rw [World.size_alloc]; omega) ?_; intro v' w3 hrow3 hgrow3 hloc3; (obtain ⟨A', c', rfl⟩ := own_form hrow3); have hd3 := (hgrow3.block b (blt (alloc_old HREP.out.cells _)) (fun e => absurd (own_block HROW.out e.symm).1 (Nat.not_le_of_lt HBL.out))).trans (alloc_old HREP.out.cells _); have y4 : w3.cell? ⟨b, 4, none⟩ = some (.slice (some ⟨gr, off, none⟩) vn vc) := (cell_of hd3 4).trans rfl; have y5 : w3.frozen? ⟨b, 4, none⟩ = false := free_of hd3 4; have HD3 := Lib.hid hd3; clear hd3; have HROW3 := Lib.hid hrow3; have HGROW3 := Lib.hid hgrow3; clear hloc3 hrow3 hgrow3)
          case roundEnd =>
            have hlt := (drop_next HDR.out).1
            refine ⟨⟨(A', j + 1, c'), j + 1, rfl, until_next ⟨HLE.out, HE.out, HROW.out, HTOUCH.out, _, HREP.out, HVR.out⟩ HREP.out HVR.out HBL.out HDR.out HX.out _ HROW3.out HGROW3.out⟩, ?_⟩
            simp only [sliceLen, HOV.out]
            omega
      · as_aux_lemma =>
          have dx : decide (x.at_ ≤ t) = false := by simpa using hx
          have k1 : wrap64 (m.told + (j : Int)) = m.told + j := by
            unfold wrap64
            have := HT.out
            have := HN.out
            omega
          have K1 := Lib.hid k1
          clear k1
          have HOV := Lib.hid hov
          have HREP := Lib.hid hrep
          have HROW := Lib.hid hrow
          have HTOUCH := Lib.hid htouch
          have HE := Lib.hid hearly
          have HVR := Lib.hid hvr
          have HLE := Lib.hid hle
          have HDR := Lib.hid hdr
          have HX := Lib.hid hx
          clear hrep hrow htouch hearly hvr hle hvn hdr hx hcell
          go_wp2_with fail
          go_ret
          rw [K1.out]
          exact until_end HLE.out HE.out HROW.out HTOUCH.out HBL.out HREP.out HVR.out (fun y l' e => by rw [HDR.out] at e; injection e with e1 e2; subst e1; have := HX.out; omega)
end Go.Proofs.Ytkdnkjjnmadhgaa.Dev
