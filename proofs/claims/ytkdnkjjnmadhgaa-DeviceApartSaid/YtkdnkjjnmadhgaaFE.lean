import Derived.Test.YtkdnkjjnmadhgaaFC
import Derived.Test.YtkdnkjjnmadhgaaFD
import Derived.Test.YtkdnkjjnmadhgaaDX
set_option linter.unusedVariables false
set_option linter.unusedSimpArgs false
/-! A bus with one line: a request is handed in. -/
namespace Go.Proofs.Ytkdnkjjnmadhgaa.Dev
open Go.RowKit Go.Maps Go.Lib Go.Shelf Go.Sort

/-- A bus with one line. -/
structure SysL (B : Nat) (w : World) (b d : Nat) (bm : BM) (lm : LM) (p : PL) : Prop where
  bus : BRep B w b bm
  line : LRep B w d lm p
  ds : bm.ds = [.iface 125 (ptr d)]
/-- The blocks of a bus with one line. -/
def SysLB (b d : Nat) (bm : BM) (lm : LM) (k : Nat) : Prop := OwnL d lm k ∨ k = b ∨ oblock (slv bm.vr) = some k
theorem SysL.tys {B : Nat} {w : World} {b d : Nat} {bm : BM} {lm : LM} {p : PL} (h : SysL B w b d bm lm p) {k : Nat} (hk : SysLB b d bm lm k) : B ≤ k ∧ ∃ cur ty, w.heap[k]? = some (.cells cur ty (0, 0)) ∧ (ty = 128 ∨ ty = 116 ∨ ty = 99 ∨ ty = 80 ∨ ty = 95) := by
  rcases hk with hk | hk
  · obtain ⟨h1, cur, ty, h2, h3⟩ := h.line.tys hk
    exact ⟨h1, cur, ty, h2, by rcases h3 with rfl | rfl | rfl <;> simp⟩
  · obtain ⟨h1, cur, ty, h2, h3⟩ := h.bus.tys hk
    exact ⟨h1, cur, ty, h2, by rcases h3 with rfl | rfl <;> simp⟩
/-- What touches a bus's rows alone leaves the line. -/
theorem LRep.touch {B : Nat} {w w' : World} {d : Nat} {m : LM} {p : PL} {S : Nat → Prop} (h : LRep B w d m p) (ht : Touch w w' S) (hs : ∀ k, S k → B ≤ k ∧ ∃ cur ty, w.heap[k]? = some (.cells cur ty (0, 0)) ∧ (ty = 80 ∨ ty = 95)) : LRep B w' d m p :=
  h.keep fun k hk ho => ht.block k hk fun e => by
    obtain ⟨hb, cur, ty, hc, hty⟩ := hs k e
    rcases ho with ho | ho
    · obtain ⟨_, cur', ty', hc', hty'⟩ := h.tys ho
      rw [hc] at hc'
      simp at hc'
      obtain ⟨_, rfl⟩ := hc'
      rcases hty with rfl | rfl <;> simp at hty'
    · rcases ho with ho | ⟨cur', ty', hc', hty'⟩
      · omega
      · rw [hc] at hc'
        simp at hc'
        obtain ⟨_, rfl⟩ := hc'
        rcases hty with rfl | rfl <;> simp at hty'
/-- A reply that the bus has, of the one device. -/
def RepOf (B : Nat) (w : World) (r : Rp) (o : Ans) : Prop := r.pk = o.1.pk ∧ r.at_ = o.2.1 ∧ r.res = o.2.2.1 ∧ r.dev = 1 ∧ r.ord = o.1.ord ∧ Held B 5 w r.dv o.2.2.2
/-- What the bus with one line is behind a request. -/
structure SentL (B : Nat) (w w' : World) (b d : Nat) (bm : BM) (lm : LM) (p' : PL) (at_ : Int) (os : List Ans) : Prop where
  ex : ∃ bm' lm' rs1, SysL B w' b d bm' lm' p' ∧ All2 (RepOf B w') rs1 os ∧ bm'.now = at_ ∧ bm'.sent = bm.sent + 1 ∧ bm'.told = bm.told ∧ bm'.rs.Perm (bm.rs ++ rs1) ∧ bm'.rs.Pairwise (fun x y => ¬ RLt y x)
  touch : Touch w w' (SysLB b d bm lm)

theorem linesys_send (w : World) (B b d : Nat) (bm : BM) (lm : LM) (p : PL) (h : SysL B w b d bm lm p) (hf : LFit p) (at_ pk do_ a_ b_ : Int) (dv : Sl) (data : List Value) (hdata : Held B 5 w dv data) (hdl : data.length ≤ 64)
    (hat : bm.now ≤ at_) (hat0 : 0 ≤ at_) (hat1 : at_ ≤ 1000000000) (hdo : do_ = 1 ∨ do_ = 2) (hsent : 0 ≤ bm.sent ∧ bm.sent < 400) (hrs : bm.rs.length ≤ 100000) (hos : (lineF p ⟨pk, do_, a_, b_, dv, at_, bm.sent⟩ data).2.length ≤ 1000) :
    Calls Try.prog 28 #[ptr b, .int .i64 1, .int .i64 at_, .agg #[.int .i64 pk, .int .i64 do_, .int .i64 a_, .int .i64 b_, slv dv]] w fun e w' => e = .returned (.int .i64 0) ∧ SentL B w w' b d bm lm (lineF p ⟨pk, do_, a_, b_, dv, at_, bm.sent⟩ data).1 at_ (lineF p ⟨pk, do_, a_, b_, dv, at_, bm.sent⟩ data).2 := by
  obtain ⟨p', hp'⟩ : ∃ p', p' = (lineF p ⟨pk, do_, a_, b_, dv, at_, bm.sent⟩ data).1 := ⟨_, rfl⟩
  obtain ⟨os, hos'⟩ : ∃ os, os = (lineF p ⟨pk, do_, a_, b_, dv, at_, bm.sent⟩ data).2 := ⟨_, rfl⟩
  rw [← hos'] at hos
  rw [← hp', ← hos']
  have hd64 : dv.2.1 ≤ 4000 := by rw [← hdata.1]; omega
  have hdo' : 1 ≤ do_ ∧ do_ ≤ 2 := by omega
  have hne : ∀ k, OwnL d lm k → ∃ cur ty, w.heap[k]? = some (.cells cur ty (0, 0)) ∧ (ty = 128 ∨ ty = 116 ∨ ty = 99) := fun k hk => (h.line.tys hk).2
  have hSn : ∀ k, OwnL d lm k → k < w.heap.size := fun k hk => by obtain ⟨cur, ty, hc, _⟩ := hne k hk; exact blt hc
  have hSb : ¬ OwnL d lm b := fun hk => by
    obtain ⟨cur, ty, hc, ht⟩ := hne b hk
    rw [h.bus.cells] at hc
    simp at hc
    obtain ⟨_, rfl⟩ := hc
    simp at ht
  have hSd : ∀ g, (slv bm.vd).ownBlock = some g → ¬ OwnL d lm g := fun g hg hk => by
    obtain ⟨cur, ty, hc, ht⟩ := hne g hk
    obtain ⟨_, cur', hc'⟩ := own_block h.bus.rd hg
    rw [hc] at hc'
    simp at hc'
    obtain ⟨_, rfl⟩ := hc'
    simp at ht
  have hSr : ∀ g, oblock (slv bm.vr) = some g → ¬ OwnL d lm g := fun g hg hk => by
    obtain ⟨cur, ty, hc, ht⟩ := hne g hk
    obtain ⟨_, cur', hc'⟩ := h.bus.rr.block hg
    rw [hc] at hc'
    simp at hc'
    obtain ⟨_, rfl⟩ := hc'
    simp at ht
  have hcall : ∀ W', Touch w W' (· = b) → Calls Try.prog 100 #[ptr d, .agg (encQ ⟨pk, do_, a_, b_, dv, at_, bm.sent⟩).toArray] W' fun e w' => ∃ v, e = .returned v ∧ Added B W' d lm W'.heap.size p' os v w' := fun W' hW' => by
    have hl' : LRep B W' d lm p := h.line.touch hW' fun k hk => h.bus.tys (.inl hk)
    have hdat' : Held B 5 W' dv data := hdata.touch5 hW' fun k hk => by
      obtain ⟨h1, cur, ty, h2, h3⟩ := h.bus.tys (.inl hk)
      exact ⟨h1, cur, ty, h2, by rcases h3 with rfl | rfl <;> decide⟩
    rw [hp', hos']
    exact line_send W' B d lm p ⟨pk, do_, a_, b_, dv, at_, bm.sent⟩ data hl' hf hdat' (fun _ => hdl) hdo ⟨hat0, hat1⟩
  have hW1 : ∀ {w1 w' : World} {c : Array Value}, w1.heap[b]? = some (.cells c 80 (0, 0)) → Touch w w1 (fun k => OwnL d lm k ∨ k = b) → ∀ k, (k = b ∨ oblock (slv bm.vr) = some k) → B ≤ k ∧ ∃ cur ty, w1.heap[k]? = some (.cells cur ty (0, 0)) ∧ (ty = 80 ∨ ty = 95) := fun {w1 w' c} hcb ht1 k hk => by
    obtain ⟨h1, cur, ty, h2, h3⟩ := h.bus.tys hk
    by_cases hkb : k = b
    · subst hkb
      exact ⟨h1, _, 80, hcb, .inl rfl⟩
    · refine ⟨h1, cur, ty, (ht1.block k (blt h2) fun e => ?_).trans h2, h3⟩
      rcases e with e | e
      · obtain ⟨cur', ty', hc', ht'⟩ := hne k e
        rw [h2] at hc'
        simp at hc'
        obtain ⟨_, rfl⟩ := hc'
        rcases h3 with rfl | rfl <;> simp at ht'
      · exact hkb e
  have hW2 : ∀ {w1 : World} {rs : List Rp}, All2 (fun r o => r.pk = o.1.pk ∧ r.at_ = o.2.1 ∧ r.res = o.2.2.1 ∧ r.dev = 0 ∧ r.ord = o.1.ord ∧ Held B 5 w1 r.dv o.2.2.2) rs os → ∀ {w' : World} {c : Array Value}, w1.heap[b]? = some (.cells c 80 (0, 0)) → Touch w w1 (fun k => OwnL d lm k ∨ k = b) → Touch w1 w' (fun k => k = b ∨ oblock (slv bm.vr) = some k) → All2 (RepOf B w') (rs.map (withDev 1)) os := fun {w1 rs} ha {w' c} hcb ht1 ht2 => by
    refine ⟨by rw [List.length_map]; exact ha.1, fun i x y hx hy => ?_⟩
    rw [List.getElem?_map] at hx
    cases hr : rs[i]? with
    | none => rw [hr] at hx; cases hx
    | some r =>
      rw [hr] at hx
      injection hx with hx
      subst hx
      obtain ⟨h1, h2, h3, h4, h5, h6⟩ := ha.2 i r y hr hy
      refine ⟨h1, h2, h3, rfl, h5, h6.touch5 ht2 fun k hk => ?_⟩
      obtain ⟨h7, cur, ty, h8, h9⟩ := hW1 (w' := w') hcb ht1 k hk
      exact ⟨h7, cur, ty, h8, by rcases h9 with rfl | rfl <;> decide⟩
  have hdev : bm.ds[((1 : Int) - 1).toNat]? = some (.iface 125 (ptr d)) := by rw [h.ds]; rfl
  by_cases h0 : os = []
  · refine (send_line0 w B b d bm h.bus 1 at_ (by decide) hdev pk do_ a_ b_ dv hat hat1 hdo' hsent hd64 (OwnL d lm) (fun w'' => ∃ m1, LRep B w'' d m1 p') hSn hSb hSd hSr hrs ?_).mono ?_
    · intro W' hW'
      refine (hcall W' hW').mono ?_
      rintro e w'' ⟨v, rfl, ⟨⟨m1, rs, hl, ho, _⟩, ht⟩⟩
      have hr0 : rs.length = 0 := by rw [ho.ans.1, h0]; rfl
      obtain ⟨A, c, rfl⟩ := own_form ho.row
      rw [hr0]
      exact ⟨A, c, rfl, ht, m1, hl⟩
    · rintro e w' ⟨rfl, w1, bm', ⟨m1, hl⟩, ⟨c, hcb⟩, ht1, ht2, hbr, hH⟩
      refine ⟨rfl, ⟨bm', m1, [], ⟨hbr, hl.touch ht2 (hW1 (w' := w') hcb ht1), by rw [hH.ds, h.ds]⟩, by rw [h0]; exact All2.nil_, hH.now, hH.sent, hH.told, ?_⟩, ?_⟩
      · obtain ⟨dk, e1, e2⟩ := hH.sorted
        obtain ⟨e3, e4⟩ := mg_list e2
        rw [e1]
        exact ⟨by simpa using e3, e4⟩
      · exact Touch.andThen (ht1.mono fun k _ hk => hk.imp id fun e => .inl e) ht2 fun k _ hk => .inr hk
  · have hpos : 0 < os.length := List.length_pos_iff.2 h0
    refine (send_line w B b d bm h.bus 1 at_ (by decide) hdev pk do_ a_ b_ dv hat hat1 hdo' hsent hd64 (OwnL d lm) (fun w'' l => (∃ m1, LRep B w'' d m1 p') ∧ All2 (fun r o => r.pk = o.1.pk ∧ r.at_ = o.2.1 ∧ r.res = o.2.2.1 ∧ r.dev = 0 ∧ r.ord = o.1.ord ∧ Held B 5 w'' r.dv o.2.2.2) l os) hSn hSb hSd hSr hrs ?_).mono ?_
    · intro W' hW'
      refine (hcall W' hW').mono ?_
      rintro e w'' ⟨v, rfl, ⟨⟨m1, rs, hl, ho, _⟩, ht⟩⟩
      have hr0 : 0 < rs.length := by rw [ho.ans.1]; exact hpos
      exact ⟨rs, v, rfl, List.length_pos_iff.1 hr0, by rw [ho.ans.1]; exact hos, Gave.of_own ho.row hr0, ht, ⟨m1, hl⟩, ho.ans⟩
    · rintro e w' ⟨rfl, l, w1, bm', ⟨⟨m1, hl⟩, ha⟩, ⟨c, hcb⟩, ht1, ht2, hbr, hH⟩
      refine ⟨rfl, ⟨bm', m1, l.map (withDev 1), ⟨hbr, hl.touch ht2 (hW1 (w' := w') hcb ht1), by rw [hH.ds, h.ds]⟩, hW2 ha hcb ht1 ht2, hH.now, hH.sent, hH.told, ?_⟩, ?_⟩
      · obtain ⟨dk, e1, e2⟩ := hH.sorted
        obtain ⟨e3, e4⟩ := mg_list e2
        rw [e1]
        exact ⟨e3, e4⟩
      · exact Touch.andThen (ht1.mono fun k _ hk => hk.imp id fun e => .inl e) ht2 fun k _ hk => .inr hk
end Go.Proofs.Ytkdnkjjnmadhgaa.Dev
