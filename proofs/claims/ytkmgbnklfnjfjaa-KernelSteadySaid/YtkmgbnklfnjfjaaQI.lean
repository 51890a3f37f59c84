import Derived.Test.YtkmgbnklfnjfjaaRQ
import Derived.Laws.BitsAllLaws
/-! The two kernels agree, plainly: first the bits of the flags. -/
namespace Go.Proofs.Ytkmgbnklfnjfjaa.Ker
open Go.RowKit Go.Maps

theorem wrap_small (n : Int) (h0 : 0 ≤ n) (h1 : n < 9223372036854775808) : IntKind.i64.wrap n = n := by
  rw [IntKind.wrap_i64]; omega
theorem ofInt64_nat (a : Nat) (ha : a < 65536) : (BitVec.ofInt 64 (a : Int)).toNat = a := by
  rw [BitVec.ofInt_natCast, BitVec.toNat_ofNat]
  exact Nat.mod_eq_of_lt (by omega)
theorem bits_and_nat (a b : Nat) (ha : a < 65536) (hb : b < 65536) : bits .and .i64 (a : Int) (b : Int) = ((a &&& b : Nat) : Int) := by
  have hx : a &&& b < 2 ^ 16 := Nat.and_lt_two_pow _ (by omega)
  show IntKind.i64.wrap ((BitVec.ofInt 64 (a : Int) &&& BitVec.ofInt 64 (b : Int)).toNat : Int) = _
  rw [BitVec.toNat_and, ofInt64_nat a ha, ofInt64_nat b hb, wrap_small _ (by omega) (by omega)]
theorem bits_or_nat (a b : Nat) (ha : a < 65536) (hb : b < 65536) : bits .or .i64 (a : Int) (b : Int) = ((a ||| b : Nat) : Int) := by
  have hx : a ||| b < 2 ^ 16 := Nat.or_lt_two_pow (by omega) (by omega)
  show IntKind.i64.wrap ((BitVec.ofInt 64 (a : Int) ||| BitVec.ofInt 64 (b : Int)).toNat : Int) = _
  rw [BitVec.toNat_or, ofInt64_nat a ha, ofInt64_nat b hb, wrap_small _ (by omega) (by omega)]
theorem andNot_bv (x y : BitVec 64) : (x &&& ~~~y) + (x &&& y) = x := by
  rw [BitVec.add_eq_or_of_and_eq_zero]
  · ext i hi
    simp only [BitVec.getElem_or, BitVec.getElem_and, BitVec.getElem_not]
    cases x[i] <;> cases y[i] <;> rfl
  · ext i hi
    simp only [BitVec.getElem_and, BitVec.getElem_not, BitVec.getElem_zero]
    cases x[i] <;> cases y[i] <;> rfl
theorem bits_andNot_nat (a b : Nat) (ha : a < 65536) (hb : b < 65536) : bits .andNot .i64 (a : Int) (b : Int) = (a : Int) - ((a &&& b : Nat) : Int) := by
  have h := congrArg BitVec.toNat (andNot_bv (BitVec.ofInt 64 (a : Int)) (BitVec.ofInt 64 (b : Int)))
  rw [BitVec.toNat_add] at h
  have h1 : (BitVec.ofInt 64 (a : Int) &&& BitVec.ofInt 64 (b : Int)).toNat = a &&& b := by rw [BitVec.toNat_and, ofInt64_nat a ha, ofInt64_nat b hb]
  rw [h1, ofInt64_nat a ha] at h
  have h2 : (BitVec.ofInt 64 (a : Int) &&& ~~~BitVec.ofInt 64 (b : Int)).toNat ≤ a := by
    rw [BitVec.toNat_and, ofInt64_nat a ha]
    exact Nat.and_le_left
  have h3 : a &&& b ≤ a := Nat.and_le_left
  show IntKind.i64.wrap ((BitVec.ofInt 64 (a : Int) &&& ~~~BitVec.ofInt 64 (b : Int)).toNat : Int) = _
  rw [wrap_small _ (by omega) (by omega)]
  omega
/-- A flag's place. -/
def Flag (f : Int) : Prop := 0 ≤ f ∧ f ≤ 65535
theorem flag_nat {f : Int} (h : Flag f) : ∃ n : Nat, f = n ∧ n < 65536 := ⟨f.toNat, by have := h.1; omega, by have := h.2; omega⟩
theorem flag_or {f x : Int} (hf : Flag f) (hx : Flag x) : Flag (bits .or .i64 f x) := by
  obtain ⟨a, rfl, ha⟩ := flag_nat hf
  obtain ⟨b, rfl, hb⟩ := flag_nat hx
  rw [bits_or_nat a b ha hb]
  have hy : a ||| b < 2 ^ 16 := Nat.or_lt_two_pow (by omega) (by omega)
  unfold Flag
  omega
theorem flag_andNot {f x : Int} (hf : Flag f) (hx : Flag x) : Flag (bits .andNot .i64 f x) ∧ wrap64 (f - bits .and .i64 f x) = bits .andNot .i64 f x := by
  obtain ⟨a, rfl, ha⟩ := flag_nat hf
  obtain ⟨b, rfl, hb⟩ := flag_nat hx
  rw [bits_andNot_nat a b ha hb, bits_and_nat a b ha hb]
  have h3 : a &&& b ≤ a := Nat.and_le_left
  unfold Flag
  refine ⟨by omega, ?_⟩
  unfold wrap64
  omega
end Go.Proofs.Ytkmgbnklfnjfjaa.Ker
/-! The two kernels agree, plainly: each call, on states that differ in the tasks' order alone. -/
namespace Go.Proofs.Ytkmgbnklfnjfjaa.Ker
open Go.RowKit Go.Maps

/-- The state with its tasks in another order. -/
def W (a : A) (l : List Int) : A := { a with tids := l }
def Sim (sA sQ : S) : Prop := sQ.1 = sA.1 ∧ sQ.2.1 = sA.2.1 ∧ ∃ l', l'.Perm sA.2.2.tids ∧ bump sQ.2.2 = W sA.2.2 l'
theorem good_W {a : A} (gd : Good a) {l : List Int} (hl : l.Perm a.tids) : Good (W a l) := by
  have ow : ∀ i, (W a l).owner i → a.owner i := fun i hi => hi.imp hl.mem_iff.1 id
  exact ⟨hl.nodup_iff.2 gd.tnd, gd.pnd, fun i hi => gd.trng i (hl.mem_iff.1 hi), fun i hi => gd.prng i (hl.mem_iff.1 hi), fun i hi j hj => gd.pinj i (hl.mem_iff.1 hi) j (hl.mem_iff.1 hj), gd.pkr, gd.made, fun i hi => gd.qin i (ow i hi), fun i hi => gd.qnd i (ow i hi), fun p hp ha => ⟨(gd.inq p hp ha).1.imp hl.mem_iff.2 id, (gd.inq p hp ha).2⟩, gd.wth0, gd.mcalls⟩
theorem good2_W {a : A} (g2 : Good2 a) {l : List Int} (hl : l.Perm a.tids) : Good2 (W a l) := ⟨g2.own1, fun i hi => g2.flg i (hl.mem_iff.1 hi)⟩
theorem run_W {a : A} (gd : Good a) {l : List Int} (hl : l.Perm a.tids) : runF (W a l) = runF a := by
  refine isRun_eq gd ?_
  rcases runF_is (good_W gd hl) with ⟨h1, h2⟩ | ⟨h1, h2, h3, h4⟩
  · exact .inl ⟨h1, fun i hi => h2 i (hl.mem_iff.2 hi)⟩
  · exact .inr ⟨hl.mem_iff.1 h1, h2, h3, fun i hi => h4 i (hl.mem_iff.2 hi)⟩
theorem insF_perm (l : List Int) (x : Int) : (insF l x).Perm (x :: l) := by
  unfold insF
  have := List.perm_middle (a := x) (l₁ := l.take (insAt l x)) (l₂ := l.drop (insAt l x))
  rwa [List.take_append_drop] at this

section
variable {a : A} (gd : Good a) (g2 : Good2 a) {l : List Int} (hl : l.Perm a.tids) (r x y : Int)
theorem sim_same {v e : Int} (hl : l.Perm a.tids) : Sim (v, e, bump a) (v, e, W a l) := ⟨rfl, rfl, l, hl, rfl⟩
theorem sim_create (gd : Good a) (hl : l.Perm a.tids) : Sim (createS (bump a) x y) (createQ (W a l) x y) := by
  unfold createS createQ
  split
  · rename_i hr
    have hk : (∃ i ∈ (W a l).tids, i = x ∨ ((W a l).tk i).pri = y) ↔ (x ∈ a.tids ∨ takenA (bump a) y 0 = true) := by
      rw [takenA_iff]
      constructor
      · rintro ⟨i, hi, rfl | hp⟩
        · exact .inl (hl.mem_iff.1 hi)
        · exact .inr ⟨i, hl.mem_iff.1 hi, hp, fun e => by have := gd.trng i (hl.mem_iff.1 hi); omega⟩
      · rintro (hx | ⟨i, hi, hp, _⟩)
        · exact ⟨x, hl.mem_iff.2 hx, .inl rfl⟩
        · exact ⟨i, hl.mem_iff.2 hi, .inr hp⟩
    by_cases hx : x ∈ a.tids
    · rw [if_pos (show x ∈ (bump a).tids from hx), if_pos (hk.2 (.inl hx))]
      exact sim_same hl
    · rw [if_neg (show ¬ x ∈ (bump a).tids from hx)]
      by_cases ht : takenA (bump a) y 0 = true
      · rw [if_pos ht, if_pos (hk.2 (.inr ht))]
        exact sim_same hl
      · rw [if_neg ht, if_neg (fun h => (hk.1 h).elim hx ht)]
        refine ⟨rfl, rfl, insF l x, ?_, rfl⟩
        exact (insF_perm l x).trans ((hl.cons x).trans (List.perm_append_singleton x a.tids).symm)
  · exact sim_same hl
theorem sim_remove (hl : l.Perm a.tids) : Sim (removeS (bump a) x) (removeS (W a l) x) := by
  unfold removeS
  by_cases hx : x ∈ a.tids
  · rw [if_pos (show x ∈ (bump a).tids from hx), if_pos (show x ∈ (W a l).tids from hl.mem_iff.2 hx)]
    by_cases hq : a.q x = []
    · rw [if_pos (show (bump a).q x = [] from hq), if_pos (show (W a l).q x = [] from hq)]
      by_cases hb : ∃ p ∈ a.pids, busyP a x p = true
      · rw [if_pos (show ∃ p ∈ (bump a).pids, busyP (bump a) x p = true from hb), if_pos (show ∃ p ∈ (W a l).pids, busyP (W a l) x p = true from hb)]
        exact sim_same hl
      · rw [if_neg (show ¬ ∃ p ∈ (bump a).pids, busyP (bump a) x p = true from hb), if_neg (show ¬ ∃ p ∈ (W a l).pids, busyP (W a l) x p = true from hb)]
        exact ⟨rfl, rfl, l.filter (fun i => i != x), hl.filter _, rfl⟩
    · rw [if_neg (show ¬ (bump a).q x = [] from hq), if_neg (show ¬ (W a l).q x = [] from hq)]
      exact sim_same hl
  · rw [if_neg (show ¬ x ∈ (bump a).tids from hx), if_neg (show ¬ x ∈ (W a l).tids from fun h => hx (hl.mem_iff.1 h))]
    exact sim_same hl
theorem move_W (hl : l.Perm a.tids) (p f t : Int) : bump (moveR (W a l) p f t) = W (moveA (bump a) p f t) l := by
  have e : a.calls + 1 - 1 = a.calls := by omega
  unfold moveR moveA bump W
  simp only [hl.mem_iff, e]
theorem sim_send (hl : l.Perm a.tids) : Sim (sendS (bump a) r x y) (sendQ (W a l) r x y) := by
  unfold sendS sendQ
  by_cases hx : x ∈ a.pids
  · rw [if_pos (show x ∈ (bump a).pids from hx), if_pos (show x ∈ (W a l).pids from hx)]
    by_cases hw : (a.pk x).wth = r
    · rw [if_pos (show ((bump a).pk x).wth = r from hw), if_pos (show ((W a l).pk x).wth = r from hw)]
      by_cases hy : y = r
      · rw [if_pos hy, if_pos hy]
        exact sim_same hl
      · rw [if_neg hy, if_neg hy]
        by_cases ho : y ∈ a.tids ∨ y ∈ devs
        · rw [if_pos (show y ∈ (bump a).tids ∨ y ∈ devs from ho), if_pos (show y ∈ (W a l).tids ∨ y ∈ devs from ho.imp hl.mem_iff.2 id)]
          exact ⟨rfl, rfl, l, hl, move_W hl x r y⟩
        · rw [if_neg (show ¬ (y ∈ (bump a).tids ∨ y ∈ devs) from ho), if_neg (show ¬ (y ∈ (W a l).tids ∨ y ∈ devs) from fun h => ho (h.imp hl.mem_iff.1 id))]
          exact sim_same hl
    · rw [if_neg (show ¬ ((bump a).pk x).wth = r from hw), if_neg (show ¬ ((W a l).pk x).wth = r from hw)]
      exact sim_same hl
  · rw [if_neg (show ¬ x ∈ (bump a).pids from hx), if_neg (show ¬ x ∈ (W a l).pids from hx)]
    exact sim_same hl
theorem sim_take (hl : l.Perm a.tids) : Sim (takeS (bump a) r) (takeS (W a l) r) := by
  unfold takeS
  show Sim (match a.q r with | [] => _ | p :: _ => _) (match a.q r with | [] => _ | p :: _ => _)
  cases a.q r with
  | nil => exact ⟨rfl, rfl, l, hl, rfl⟩
  | cons p t => exact ⟨rfl, rfl, l, hl, rfl⟩
theorem sim_held (b : Bool) (hl : l.Perm a.tids) : Sim (heldS (bump a) x b) (heldS (W a l) x b) := by
  unfold heldS
  by_cases hx : x ∈ a.tids
  · rw [if_pos (show x ∈ (bump a).tids from hx), if_pos (show x ∈ (W a l).tids from hl.mem_iff.2 hx)]
    exact ⟨rfl, rfl, l, hl, rfl⟩
  · rw [if_neg (show ¬ x ∈ (bump a).tids from hx), if_neg (show ¬ x ∈ (W a l).tids from fun h => hx (hl.mem_iff.1 h))]
    exact sim_same hl
theorem sim_set (hl : l.Perm a.tids) : Sim (setS (bump a) x y) (setS (W a l) x y) := by
  unfold setS
  by_cases hx : x ∈ a.tids
  · rw [if_pos (show x ∈ (bump a).tids from hx), if_pos (show x ∈ (W a l).tids from hl.mem_iff.2 hx)]
    split
    · exact ⟨rfl, rfl, l, hl, rfl⟩
    · exact sim_same hl
  · rw [if_neg (show ¬ x ∈ (bump a).tids from hx), if_neg (show ¬ x ∈ (W a l).tids from fun h => hx (hl.mem_iff.1 h))]
    exact sim_same hl
theorem sim_test (g2 : Good2 a) (hr : r ∈ a.tids) (hl : l.Perm a.tids) : Sim (testS (bump a) r x) (testQ (W a l) r x) := by
  unfold testS testQ
  split
  · rename_i hx
    have e := (flag_andNot (g2.flg r hr) hx).2
    refine ⟨rfl, rfl, l, hl, ?_⟩
    show W (bump { a with tk := upd a.tk r { a.tk r with flags := wrap64 ((a.tk r).flags - bits .and .i64 (a.tk r).flags x) } }) l = _
    rw [e]
    rfl
  · exact sim_same hl
theorem sim_pri (hl : l.Perm a.tids) : Sim (priS (bump a) x y) (priS (W a l) x y) := by
  unfold priS
  by_cases hx : x ∈ a.tids
  · rw [if_pos (show x ∈ (bump a).tids from hx), if_pos (show x ∈ (W a l).tids from hl.mem_iff.2 hx)]
    split
    · have ht : takenA (W a l) y x = takenA (bump a) y x := by
        unfold takenA
        exact hl.any_eq
      rw [ht]
      split
      · exact sim_same hl
      · exact ⟨rfl, rfl, l, hl, rfl⟩
    · exact sim_same hl
  · rw [if_neg (show ¬ x ∈ (bump a).tids from hx), if_neg (show ¬ x ∈ (W a l).tids from fun h => hx (hl.mem_iff.1 h))]
    exact sim_same hl
theorem sim_fetch (hl : l.Perm a.tids) : Sim (fetchS (bump a) r x) (fetchS (W a l) r x) := by
  unfold fetchS
  by_cases hx : x ∈ a.pids
  · rw [if_pos (show x ∈ (bump a).pids from hx), if_pos (show x ∈ (W a l).pids from hx)]
    by_cases ha : (a.pk x).at_ = 0
    · rw [if_pos (show ((bump a).pk x).at_ = 0 from ha), if_pos (show ((W a l).pk x).at_ = 0 from ha)]
      exact sim_same hl
    · rw [if_neg (show ¬ ((bump a).pk x).at_ = 0 from ha), if_neg (show ¬ ((W a l).pk x).at_ = 0 from ha)]
      by_cases hf : (a.pk x).frm = r
      · rw [if_pos (show ((bump a).pk x).frm = r from hf), if_pos (show ((W a l).pk x).frm = r from hf)]
        exact ⟨rfl, rfl, l, hl, rfl⟩
      · rw [if_neg (show ¬ ((bump a).pk x).frm = r from hf), if_neg (show ¬ ((W a l).pk x).frm = r from hf)]
        exact sim_same hl
  · rw [if_neg (show ¬ x ∈ (bump a).pids from hx), if_neg (show ¬ x ∈ (W a l).pids from hx)]
    exact sim_same hl
theorem sim_packet (hl : l.Perm a.tids) : Sim (packetS (bump a) r x) (packetS (W a l) r x) := by
  unfold packetS
  by_cases hm : a.made = 200
  · rw [if_pos (show (bump a).made = 200 from hm), if_pos (show (W a l).made = 200 from hm)]
    exact sim_same hl
  · rw [if_neg (show ¬ (bump a).made = 200 from hm), if_neg (show ¬ (W a l).made = 200 from hm)]
    exact ⟨rfl, rfl, l, hl, rfl⟩
theorem own_drop (gd : Good a) {d p : Int} {t : List Int} (hd : d ∈ devs) (hq : a.q d = p :: t) : ownA a p 0 = dropA a d p := by
  have h1 := gd.qin d (.inr hd) p (by rw [hq]; simp)
  have h0 : (a.pk p).at_ ≠ 0 := by rw [h1.2]; exact gd.own_ne (.inr hd)
  have h2 := gd.wth0 p h1.1 h0
  unfold ownA dropA
  rw [h1.2]
  have e : ({ a.pk p with at_ := 0, wth := 0 } : Pk) = { a.pk p with at_ := 0 } := by
    rw [← h2]
  rw [e]
theorem sim_device (gd : Good a) (hl : l.Perm a.tids) : Sim (deviceS (bump a) x y) (deviceQ (W a l) x y) := by
  unfold deviceS deviceQ
  split
  · rename_i hd
    obtain ⟨qs, hq⟩ : ∃ qs, qs = a.q x := ⟨_, rfl⟩
    rw [show (bump a).q x = qs from hq.symm, show (W a l).q x = qs from hq.symm]
    cases qs with
    | nil => exact sim_same hl
    | cons p t =>
      have e := own_drop (good_W gd hl) hd hq.symm
      have e' : (W a l).pk = a.pk := rfl
      simp only [e]
      by_cases hf : (a.pk p).frm ∈ a.tids
      · rw [if_pos (show ((bump a).pk p).frm ∈ (bump a).tids from hf), if_pos (show ((W a l).pk p).frm ∈ (W a l).tids from hl.mem_iff.2 hf)]
        refine ⟨rfl, rfl, l, hl, ?_⟩
        exact move_W (a := resA (dropA a x p) p y) hl p x (a.pk p).frm
      · rw [if_neg (show ¬ ((bump a).pk p).frm ∈ (bump a).tids from hf), if_neg (show ¬ ((W a l).pk p).frm ∈ (W a l).tids from fun h => hf (hl.mem_iff.1 h))]
        exact ⟨rfl, rfl, l, hl, rfl⟩
  · exact sim_same hl
theorem sim_wait (hl : l.Perm a.tids) : Sim (waitS (bump a) r x) (waitS (W a l) r x) := by
  unfold waitS
  by_cases hx : x ∈ a.pids
  · rw [if_pos (show x ∈ (bump a).pids from hx), if_pos (show x ∈ (W a l).pids from hx)]
    by_cases ha : (a.pk x).wth = r
    · rw [if_pos (show ((bump a).pk x).wth = r from ha), if_pos (show ((W a l).pk x).wth = r from ha)]
      exact sim_same hl
    · rw [if_neg (show ¬ ((bump a).pk x).wth = r from ha), if_neg (show ¬ ((W a l).pk x).wth = r from ha)]
      by_cases hf : (a.pk x).at_ = r
      · rw [if_pos (show ((bump a).pk x).at_ = r from hf), if_pos (show ((W a l).pk x).at_ = r from hf)]
        exact ⟨rfl, rfl, l, hl, rfl⟩
      · rw [if_neg (show ¬ ((bump a).pk x).at_ = r from hf), if_neg (show ¬ ((W a l).pk x).at_ = r from hf)]
        exact ⟨rfl, rfl, l, hl, rfl⟩
  · rw [if_neg (show ¬ x ∈ (bump a).pids from hx), if_neg (show ¬ x ∈ (W a l).pids from hx)]
    exact sim_same hl
end
end Go.Proofs.Ytkmgbnklfnjfjaa.Ker
/-! The two kernels agree, plainly: Do, and a row of calls. -/
namespace Go.Proofs.Ytkmgbnklfnjfjaa.Ker
open Go.RowKit Go.Maps

section
variable {a : A}
theorem Good2.tkFlag (g : Good2 a) (r : Int) (t : T) (ht : r ∈ a.tids → Flag t.flags) : Good2 { a with tk := upd a.tk r t } :=
  ⟨g.own1, fun i hi => by
    show Flag (upd a.tk r t i).flags
    by_cases e : i = r
    · subst e; rw [upd_same]; exact ht hi
    · rw [upd_other _ _ e]; exact g.flg i hi⟩
theorem Good2.pkOwn (g : Good2 a) (f : Int → Pk) (hf : ∀ p ∈ a.pids, (f p).own = (a.pk p).own) : Good2 { a with pk := f } :=
  ⟨fun p hp => by
    show 1 ≤ (f p).own
    rw [hf p hp]; exact g.own1 p hp, g.flg⟩
theorem upd_own (f : Int → Pk) (p : Int) (t : Pk) (ht : t.own = (f p).own) (z : Int) : (upd f p t z).own = (f z).own := by
  by_cases e : z = p
  · subst e; rw [upd_same, ht]
  · rw [upd_other _ _ e]
theorem Good2.qAny (g : Good2 a) (q : Int → List Int) : Good2 { a with q := q } := ⟨g.own1, g.flg⟩
theorem Good2.callsAny (g : Good2 a) (c : Int) : Good2 { a with calls := c } := ⟨g.own1, g.flg⟩
theorem good2_own (g : Good2 a) (p r : Int) : Good2 (ownA a p r) := (g.qAny ((ownA a p r).q)).pkOwn _ (fun z _ => upd_own a.pk p { a.pk p with at_ := 0, wth := r } rfl z)
theorem good2_drop (g : Good2 a) (x p : Int) : Good2 (dropA a x p) := (g.qAny ((dropA a x p).q)).pkOwn _ (fun z _ => upd_own a.pk p { a.pk p with at_ := 0 } rfl z)
theorem good2_res (g : Good2 a) (p y : Int) : Good2 (resA a p y) := g.pkOwn _ (fun z _ => upd_own a.pk p { a.pk p with res := y } rfl z)
theorem good2_rest (g : Good2 a) (r i : Int) : Good2 (restA a r i) := g.tkFlag r _ (fun h => g.flg r h)
theorem good2_move (g : Good2 a) (p f t : Int) : Good2 (moveA a p f t) := by
  refine ⟨fun z hz => ?_, fun i hi => ?_⟩
  · show 1 ≤ (upd a.pk p _ z).own
    rw [upd_own a.pk p { a.pk p with at_ := t, frm := f, wth := 0 } rfl z]
    exact g.own1 z hz
  · show Flag ((if t ∈ a.tids ∧ (a.tk t).waiting = true ∧ ((a.tk t).forr = 0 ∨ (a.tk t).forr = p) then upd a.tk t { a.tk t with waiting := false, forr := 0 } else a.tk) i).flags
    split
    · by_cases e : i = t
      · subst e; rw [upd_same]; exact g.flg i hi
      · rw [upd_other _ _ e]; exact g.flg i hi
    · exact g.flg i hi
theorem good2_step (g : Good2 a) (gd : Good a) (r d x y : Int) (hr : r = 0 ∨ r ∈ a.tids) (h0 : r = 0 → d = 1 ∨ d = 12) : Good2 (stepA a r d x y).2.2 := by
  unfold stepA
  by_cases e1 : d = 1
  · rw [if_pos e1]
    unfold createS
    split
    · split
      · exact g
      · split
        · exact g
        · refine ⟨g.own1, fun i hi => ?_⟩
          show Flag (upd a.tk x _ i).flags
          by_cases e : i = x
          · subst e; rw [upd_same]; exact ⟨Int.le_refl _, by show (0 : Int) ≤ 65535; decide⟩
          · rw [upd_other _ _ e]
            exact g.flg i ((List.mem_append.1 hi).resolve_right (fun h => e (List.mem_singleton.1 h)))
    · exact g
  rw [if_neg e1]
  by_cases e2 : d = 2
  · rw [if_pos e2]
    unfold removeS
    split
    · split
      · split
        · exact g
        · refine ⟨fun p hp => ?_, fun i hi => g.flg i (List.mem_filter.1 hi).1⟩
          show 1 ≤ (lostP a x p).own
          have h1 := g.own1 p (List.mem_filter.1 hp).1
          unfold lostP
          split
          · exact h1
          · exact h1
      · exact g
    · exact g
  rw [if_neg e2]
  by_cases e3 : d = 3
  · rw [if_pos e3]
    unfold sendS
    repeat' (first | exact g | exact good2_move g _ _ _ | split)
  rw [if_neg e3]
  by_cases e4 : d = 4
  · rw [if_pos e4]
    unfold takeS
    split
    · exact good2_rest g _ _
    · exact good2_own g _ _
  rw [if_neg e4]
  by_cases e5 : d = 5
  · rw [if_pos e5]
    unfold heldS
    split
    · exact g.tkFlag x _ (fun h => g.flg x h)
    · exact g
  rw [if_neg e5]
  by_cases e6 : d = 6
  · rw [if_pos e6]
    unfold heldS
    split
    · exact g.tkFlag x _ (fun h => g.flg x h)
    · exact g
  rw [if_neg e6]
  by_cases e7 : d = 7
  · rw [if_pos e7]
    unfold setS
    split
    · split
      · rename_i hy
        exact g.tkFlag x _ (fun h => flag_or (g.flg x h) hy)
      · exact g
    · exact g
  rw [if_neg e7]
  by_cases e8 : d = 8
  · rw [if_pos e8]
    unfold testS
    split
    · rename_i hy
      exact g.tkFlag r _ (fun h => (flag_andNot (g.flg r h) hy).1)
    · exact g
  rw [if_neg e8]
  by_cases e9 : d = 9
  · rw [if_pos e9]
    unfold priS
    split
    · split
      · split
        · exact g
        · exact g.tkFlag x _ (fun h => g.flg x h)
      · exact g
    · exact g
  rw [if_neg e9]
  by_cases e10 : d = 10
  · rw [if_pos e10]
    unfold fetchS
    repeat' (first | exact g | exact good2_own g _ _ | split)
  rw [if_neg e10]
  by_cases e11 : d = 11
  · rw [if_pos e11]
    have hr' : r ∈ a.tids := hr.resolve_left (fun e => by rcases h0 e with h | h <;> omega)
    unfold packetS
    split
    · exact g
    · refine ⟨fun p hp => ?_, g.flg⟩
      show 1 ≤ (upd a.pk (a.made + 1) _ p).own
      by_cases e : p = a.made + 1
      · subst e; rw [upd_same]; exact (gd.trng r hr').1
      · rw [upd_other _ _ e]
        exact g.own1 p ((List.mem_append.1 hp).resolve_right (fun h => e (List.mem_singleton.1 h)))
  rw [if_neg e11]
  by_cases e12 : d = 12
  · rw [if_pos e12]
    unfold deviceS
    split
    · split
      · exact g
      · split
        · exact good2_move (good2_res (good2_drop g _ _) _ _) _ _ _
        · exact good2_drop g _ _
    · exact g
  rw [if_neg e12]
  by_cases e13 : d = 13
  · rw [if_pos e13]
    unfold waitS
    repeat' (first | exact g | exact good2_own g _ _ | exact good2_rest g _ _ | split)
  rw [if_neg e13]
  exact g
theorem runF_bump (a : A) : runF (bump a) = runF a := rfl
theorem good2_do (g : Good2 a) (gd : Good a) (c : C3) : Good2 (doF a c).2.2 := by
  unfold doF doA
  rw [runF_bump]
  split
  · exact g.callsAny _
  · split
    · exact g.callsAny _
    · rename_i h
      exact good2_step (a := bump a) (g.callsAny _) (gd.calls _ (by omega)) _ _ _ _ (runF_in gd) (fun e => by
        by_cases h1 : c.1 = 1
        · exact .inl h1
        · exact .inr (Decidable.byContradiction fun h12 => h ⟨e, h12, .inl h1⟩))
theorem sim_do (gd : Good a) (g2 : Good2 a) {l : List Int} (hl : l.Perm a.tids) (c : C3) : (doR (W a l) c).1 = (doF a c).1 ∧ (doR (W a l) c).2.1 = (doF a c).2.1 ∧ ∃ l', l'.Perm (doF a c).2.2.tids ∧ (doR (W a l) c).2.2 = W (doF a c).2.2 l' := by
  suffices h : Sim (doF a c) (doQ (W a l) (runF (W a l)) c.1 c.2.1 c.2.2) from h
  rw [run_W gd hl]
  unfold doF doA doQ
  rw [runF_bump]
  by_cases e0 : c.1 < 1 ∨ 13 < c.1
  · rw [if_pos e0, if_pos e0]
    exact sim_same hl
  rw [if_neg e0, if_neg e0]
  have hlen : (0 < a.tids.length) ↔ (W a l).tids ≠ [] := by
    rw [← hl.length_eq]
    exact List.length_pos_iff
  by_cases ei : runF a = 0 ∧ c.1 ≠ 12 ∧ (c.1 ≠ 1 ∨ 0 < a.tids.length)
  · rw [if_pos ei, if_pos ⟨ei.1, ei.2.1, ei.2.2.imp id hlen.1⟩]
    exact sim_same hl
  rw [if_neg ei, if_neg (fun h => ei ⟨h.1, h.2.1, h.2.2.imp id hlen.2⟩)]
  have hr : c.1 ≠ 1 → c.1 ≠ 12 → runF a ∈ a.tids := fun h1 h12 => (runF_in gd).resolve_left (fun e => ei ⟨e, h12, .inl h1⟩)
  obtain ⟨d, x, y⟩ := c
  simp only at hr e0 ei ⊢
  have hd : d = 1 ∨ d = 2 ∨ d = 3 ∨ d = 4 ∨ d = 5 ∨ d = 6 ∨ d = 7 ∨ d = 8 ∨ d = 9 ∨ d = 10 ∨ d = 11 ∨ d = 12 ∨ d = 13 := by omega
  rcases hd with rfl | rfl | rfl | rfl | rfl | rfl | rfl | rfl | rfl | rfl | rfl | rfl | rfl
  · exact sim_create x y gd hl
  · exact sim_remove x hl
  · exact sim_send _ x y hl
  · exact sim_take _ hl
  · exact sim_held x true hl
  · exact sim_held x false hl
  · exact sim_set x y hl
  · exact sim_test _ x g2 (hr (by decide) (by decide)) hl
  · exact sim_pri x y hl
  · exact sim_fetch _ x hl
  · exact sim_packet _ x hl
  · exact sim_device x y gd hl
  · exact sim_wait _ x hl
end
end Go.Proofs.Ytkmgbnklfnjfjaa.Ker
/-! The moves of a row of calls: Log of either kernel. -/
namespace Go.Proofs.Ytkmgbnklfnjfjaa.Ker
open Go.RowKit Go.Maps

theorem good2_0 : Good2 A0 := ⟨fun p hp => (by cases hp), fun i hi => (by cases hi)⟩
theorem good2_after {a : A} (gd : Good a) (g : Good2 a) : ∀ l, Good2 (afterF a l)
  | [] => g
  | c :: l => good2_after (good_doF gd c) (good2_do g gd c) l
def H0 : RG := { tv := .slice none 0 0, pv := .slice none 0 0, mv := .slice none 0 0, qv := fun _ => .slice none 0 0 }
def rz : Array Value := #[.slice none 0 0, .slice none 0 0, .slice none 0 0, .slice none 0 0, .slice none 0 0, .slice none 0 0, .slice none 0 0, .slice none 0 0, .int .i64 0]
theorem rep0 (w : World) : RRep w.heap.size w.heap.size H0 (W A0 []) (w.alloc (.cells rz 63)) :=
  ⟨alloc_new w _, owns_none, owns_none, owns_none, fun _ _ => owns_none, fun _ _ _ _ _ b hb => (by cases hb), Nat.le_refl _⟩
/-- Do of the specification answers as the kernel's. -/
theorem rdo_sim (B xb : Nat) (h : RG) (a : A) (l : List Int) (w : World) (r : RRep B xb h (W a l) w) (hl : l.Perm a.tids) (gd : Good a) (g2 : Good2 a) (hca : 0 ≤ a.calls ∧ a.calls < 100000) (c : C3) (cc cd : Int) :
    Calls Try.prog 26 #[ptr xb, .agg #[.int .i64 c.1, .int .i64 c.2.1, .int .i64 c.2.2, .int .i64 cc, .int .i64 cd]] w fun e w' => e = .returned (.tuple #[.int .i64 (doF a c).1, .int .i64 (doF a c).2.1]) ∧ ∃ h' l', l'.Perm (doF a c).2.2.tids ∧ Left B xb h (W a l) w h' (W (doF a c).2.2 l') w' := by
  obtain ⟨d, x, y⟩ := c
  have hm := gd.mcalls
  refine (rDo_any B xb h (W a l) w r (good_W gd hl) (good2_W g2 hl) (show a.moves.length ≤ 100000 by omega) hca d x y cc cd).mono ?_
  obtain ⟨e1, e2, l', hp, e3⟩ := sim_do gd g2 hl (d, x, y)
  rw [e1, e2, e3]
  rintro e w' ⟨rfl, h', hL⟩
  exact ⟨rfl, h', l', hp, hL⟩
def RLogRel (w : World) (l : List C3) (i : Value) (wr : World) : Prop := ∃ (j : Nat) (h : RG) (l' : List Int), j ≤ l.length ∧ i = .int .i64 j ∧ Below w.heap.size w wr ∧ l'.Perm (afterF A0 (l.take j)).tids ∧ RRep w.heap.size w.heap.size h (W (afterF A0 (l.take j)) l') wr
theorem take_next {l : List C3} {j : Nat} {c : C3} (h : l[j]? = some c) : l.take (j + 1) = l.take j ++ [c] := by
  obtain ⟨hlt, e⟩ := List.getElem?_eq_some_iff.1 h
  rw [List.take_succ_eq_append_getElem hlt, e]

set_option maxHeartbeats 2000000 in
set_option maxRecDepth 100000 in
theorem rlog_any (w : World) (v : Value) (l : List C3) (h : callsAt w v l) (hn : l.length ≤ 1000) :
    Calls Try.prog 15 #[v] w fun e w' => ∃ u, e = .returned (.tuple #[u, .int .i64 0]) ∧ Below w.heap.size w w' ∧ w'.ownsRow w.heap.size 31 4 u (afterF A0 l).moves.length ((afterF A0 l).moves.flatMap mcells) := by
  obtain ⟨va, vc, rfl, hc⟩ := h
  have HC := Lib.hid hc
  have hl : decide ((1000 : Int) < (l.length : Int)) = false := decide_eq_false (by omega)
  have HB := Lib.hid (show Below w.heap.size w (w.alloc (.cells rz 63)) from (Below.refl _ _).alloc (Nat.le_refl _) _)
  have HR := Lib.hid (rep0 w)
  clear hc
  go_enter Try.func15, Try.ntmps15
  go_wp2_with fail
  go_loopw [5] (fun i wr => RLogRel w l i wr) (fun i _ => l.length - (intOf i).toNat)
  case atStart => exact ⟨0, H0, [], Nat.zero_le _, rfl, HB.out, List.Perm.nil, HR.out⟩
  case round =>
    obtain ⟨j, g, l', hj, rfl, hb, hp, hk⟩ := hrel
    have gd : Good (afterF A0 (l.take j)) := good_after good0 _
    have g2 : Good2 (afterF A0 (l.take j)) := good2_after good0 good2_0 _
    have hcl : (afterF A0 (l.take j)).calls = j := by rw [after_calls]; simp [A0]; omega
    by_cases hlt : j < l.length
    · obtain ⟨gb, o, c, cc, cd, rfl, hg, hlc, c0, c1, c2, c3, c4⟩ := HC.out j hlt
      have z0 : wr.cell? ⟨gb, o + j * 5, none⟩ = some (.int .i64 c.1) := (hb.cell (p := ⟨gb, _, none⟩) hg).trans c0
      have z1 : wr.cell? ⟨gb, o + j * 5 + 1, none⟩ = some (.int .i64 c.2.1) := (hb.cell (p := ⟨gb, _, none⟩) hg).trans c1
      have z2 : wr.cell? ⟨gb, o + j * 5 + 2, none⟩ = some (.int .i64 c.2.2) := (hb.cell (p := ⟨gb, _, none⟩) hg).trans c2
      have z3 : wr.cell? ⟨gb, o + j * 5 + 3, none⟩ = some (.int .i64 cc) := (hb.cell (p := ⟨gb, _, none⟩) hg).trans c3
      have z4 : wr.cell? ⟨gb, o + j * 5 + 4, none⟩ = some (.int .i64 cd) := (hb.cell (p := ⟨gb, _, none⟩) hg).trans c4
      have hdd : decide ((j : Int) < (l.length : Int)) = true := by simpa using hlt
      have C26 := Lib.hid (rdo_sim w.heap.size w.heap.size g _ l' _ hk hp gd g2 (by omega) c cc cd)
      have HBR := Lib.hid hb
      have HK := Lib.hid hk
      have HLC := Lib.hid hlc
      clear hb hk hg c0 c1 c2 c3 c4 hlc gd g2 hcl hp
      go_wp2_with (go_at_call 26; (with_reducible refine C26.out.mono ?_); rintro e w3 ⟨rfl, g3, l3, hp3, hL3⟩; have HP3 := Lib.hid hp3; have HL3 := Lib.hid hL3; clear hp3 hL3)
      go_roundw
      case rel =>
        refine ⟨j + 1, g3, l3, by omega, by go_num, HBR.out.trans (HL3.out.low HK.out), ?_⟩
        rw [take_next HLC.out, afterF_append]
        exact ⟨HP3.out, HL3.out.rep⟩
      case measure => simp [intOf]; omega
    · have hjn : j = l.length := by omega
      subst hjn
      rw [List.take_length] at hk
      have hdd : decide ((l.length : Int) < (l.length : Int)) = false := by simp
      have HBR := Lib.hid hb
      have HK := Lib.hid hk
      have k7 := hk.k7
      clear hb hk gd g2 hcl hp
      go_wp2_with fail
      go_ret2
      exact ⟨_, rfl, HBR.out, HK.out.mrow⟩
end Go.Proofs.Ytkmgbnklfnjfjaa.Ker
/-! The moves of a row of calls: Log of the kernel. -/
namespace Go.Proofs.Ytkmgbnklfnjfjaa.Ker
open Go.RowKit Go.Maps

def KLogRel (w : World) (l : List C3) (i : Value) (wr : World) : Prop := ∃ (j : Nat) (g : G), j ≤ l.length ∧ i = .int .i64 j ∧ Below w.heap.size w wr ∧ KRep w.heap.size w.heap.size g (afterF A0 (l.take j)) wr

set_option maxHeartbeats 2000000 in
set_option maxRecDepth 100000 in
theorem klog_any (w : World) (v : Value) (l : List C3) (h : callsAt w v l) (hn : l.length ≤ 1000) :
    Calls Try.prog 14 #[v] w fun e w' => ∃ u, e = .returned (.tuple #[u, .int .i64 0]) ∧ Below w.heap.size w w' ∧ w'.ownsRow w.heap.size 31 4 u (afterF A0 l).moves.length ((afterF A0 l).moves.flatMap mcells) := by
  obtain ⟨va, vc, rfl, hc⟩ := h
  have HC := Lib.hid hc
  have CN := Lib.hid (new_any w)
  have hl : decide ((1000 : Int) < (l.length : Int)) = false := decide_eq_false (by omega)
  clear hc
  go_enter Try.func14, Try.ntmps14
  go_wp2_with (go_at_call 17; (with_reducible refine CN.out.mono ?_); rintro e w1 ⟨rfl, hb, hk⟩; have HB := Lib.hid hb; have HK := Lib.hid hk; clear hb hk)
  go_loopw [13] (fun i wr => KLogRel w l i wr) (fun i _ => l.length - (intOf i).toNat)
  case atStart => exact ⟨0, G0 w.heap.size, Nat.zero_le _, rfl, HB.out, HK.out⟩
  case round =>
    obtain ⟨j, g, hj, rfl, hb, hk⟩ := hrel
    have gd : Good (afterF A0 (l.take j)) := good_after good0 _
    have hcl : (afterF A0 (l.take j)).calls = j := by rw [after_calls]; simp [A0]; omega
    by_cases hlt : j < l.length
    · obtain ⟨gb, o, c, cc, cd, rfl, hg, hlc, c0, c1, c2, c3, c4⟩ := HC.out j hlt
      have z0 : wr.cell? ⟨gb, o + j * 5, none⟩ = some (.int .i64 c.1) := (hb.cell (p := ⟨gb, _, none⟩) hg).trans c0
      have z1 : wr.cell? ⟨gb, o + j * 5 + 1, none⟩ = some (.int .i64 c.2.1) := (hb.cell (p := ⟨gb, _, none⟩) hg).trans c1
      have z2 : wr.cell? ⟨gb, o + j * 5 + 2, none⟩ = some (.int .i64 c.2.2) := (hb.cell (p := ⟨gb, _, none⟩) hg).trans c2
      have z3 : wr.cell? ⟨gb, o + j * 5 + 3, none⟩ = some (.int .i64 cc) := (hb.cell (p := ⟨gb, _, none⟩) hg).trans c3
      have z4 : wr.cell? ⟨gb, o + j * 5 + 4, none⟩ = some (.int .i64 cd) := (hb.cell (p := ⟨gb, _, none⟩) hg).trans c4
      have hdd : decide ((j : Int) < (l.length : Int)) = true := by simpa using hlt
      have hka := hk.keep (w' := wr.alloc (.cells #[.int .i64 c.1, .int .i64 c.2.1, .int .i64 c.2.2, .int .i64 cc, .int .i64 cd] 38)) (fun k hk => Below.heap_alloc wr _ _ hk)
      have C19 := Lib.hid (do_det w.heap.size w.heap.size g _ _ hka gd (by omega) c cc cd)
      have hba : Bel w.heap.size w.heap.size wr (wr.alloc (.cells #[.int .i64 c.1, .int .i64 c.2.1, .int .i64 c.2.2, .int .i64 cc, .int .i64 cd] 38)) := (Bel.refl _ _ _).alloc hb.size hk.klt _
      have HBA := Lib.hid hba
      have HBR := Lib.hid hb
      have HLC := Lib.hid hlc
      clear hb hk hka hba hg c0 c1 c2 c3 c4 hlc gd hcl
      go_wp2_with (go_at_call 19; (with_reducible refine C19.out.mono ?_); rintro e w3 ⟨rfl, hb3, g3, h3⟩; have HB3 := Lib.hid (HBA.out.trans hb3); have H3 := Lib.hid h3; clear hb3 h3)
      go_roundw
      case rel =>
        refine ⟨j + 1, g3, by omega, by go_num, HBR.out.trans HB3.out.low, ?_⟩
        rw [take_next HLC.out, afterF_append]
        exact H3.out
      case measure => simp [intOf]; omega
    · have hjn : j = l.length := by omega
      subst hjn
      rw [List.take_length] at hk
      have hdd : decide ((l.length : Int) < (l.length : Int)) = false := by simp
      have HBR := Lib.hid hb
      have HK2 := Lib.hid hk
      have k4 := hk.k4
      clear hb hk gd hcl
      go_wp2_with fail
      go_ret2
      exact ⟨_, rfl, HBR.out, HK2.out.mrow⟩
end Go.Proofs.Ytkmgbnklfnjfjaa.Ker
/-! The specification's Play. -/
namespace Go.Proofs.Ytkmgbnklfnjfjaa.Ker
open Go.RowKit Go.Maps

/-- A value's row is none of the specification's. -/
def Off (xb : Nat) (h : RG) (a : A) (u : Value) : Prop := ∀ b, u.ownBlock = some b → ¬ OwnR xb h a b
theorem left_row {B B' xb n e sz : Nat} {h h' : RG} {a a' : A} {w w' : World} {u : Value} {xs : List Value} (l : Left B xb h a w h' a' w') (ho : w.ownsRow B' e sz u n xs) (hf : Off xb h a u) : w'.ownsRow B' e sz u n xs :=
  own_keep ho (fun g hg hl => l.touch.block g hl (hf g hg))
theorem left_off {B B' xb n e sz : Nat} {h h' : RG} {a a' : A} {w w' : World} {u : Value} {xs : List Value} (l : Left B xb h a w h' a' w') (ho : w.ownsRow B' e sz u n xs) (hf : Off xb h a u) : Off xb h' a' u := fun b hb hk => by
  rcases l.own b hk with h1 | h1
  · exact hf b hb h1
  · have := own_lt ho hb; omega
theorem grown_rep {B xb : Nat} {h : RG} {a : A} {w w' : World} {u : Value} (r : RRep B xb h a w) (hg : w.grownBy w' u.ownBlock) (hf : Off xb h a u) : RRep B xb h a w' :=
  r.keep (fun k hk => hg.block k (r.lt hk).1 (fun e => hf k e.symm hk))
theorem off_new {B xb : Nat} {h : RG} {a : A} {w : World} {u v : Value} (r : RRep B xb h a w) (hf : Off xb h a u) (hl : v.ownBlock = u.ownBlock ∨ v.ownBlock = some (w.heap.size + 1)) : Off xb h a v := fun b hb hk => by
  rcases hl with hl | hl
  · exact hf b (hl ▸ hb) hk
  · have := (r.lt hk).1
    rw [hl] at hb
    have : w.heap.size + 1 = b := by simpa using hb
    omega
theorem rrun_sim (B xb : Nat) (h : RG) (a : A) (l : List Int) (w : World) (r : RRep B xb h (W a l) w) (hl : l.Perm a.tids) (gd : Good a) : Calls Try.prog 28 #[ptr xb] w fun e w' => e = .returned (.int .i64 (runF a)) ∧ Below w.heap.size w w' := by
  rw [← run_W gd hl]
  exact rrunning B xb h _ w r (good_W gd hl)
def RPlayRel (w : World) (l : List C3) (u1 u2 i : Value) (wr : World) : Prop := ∃ (j : Nat) (h : RG) (l' : List Int), j ≤ l.length ∧ i = .int .i64 j ∧ Below w.heap.size w wr ∧ l'.Perm (afterF A0 (l.take j)).tids ∧ RRep w.heap.size w.heap.size h (W (afterF A0 (l.take j)) l') wr ∧
  wr.ownsRow w.heap.size 3 1 u1 j ((playF A0 (l.take j)).1.map fun p => .int .i64 p) ∧ wr.ownsRow w.heap.size 3 1 u2 j ((playF A0 (l.take j)).2.map fun p => .int .i64 p) ∧ (∀ b, u1.ownBlock = some b → u2.ownBlock ≠ some b) ∧ Off w.heap.size h (W (afterF A0 (l.take j)) l') u1 ∧ Off w.heap.size h (W (afterF A0 (l.take j)) l') u2

set_option maxHeartbeats 2000000 in
set_option maxRecDepth 100000 in
theorem rplay_any (w : World) (v : Value) (l : List C3) (h : callsAt w v l) (hn : l.length ≤ 1000) :
    Calls Try.prog 12 #[v] w fun e w' => ∃ v1 v2, e = .returned (.tuple #[v1, v2, .int .i64 0]) ∧ Below w.heap.size w w' ∧ intsAt w' v1 (playF A0 l).1 ∧ intsAt w' v2 (playF A0 l).2 := by
  obtain ⟨i0, hi, hz0, hz1, hz2⟩ := info_parts info3
  obtain ⟨va, vc, rfl, hc⟩ := h
  have HC := Lib.hid hc
  have HB := Lib.hid (show Below w.heap.size w (w.alloc (.cells rz 63)) from (Below.refl _ _).alloc (Nat.le_refl _) _)
  have HR := Lib.hid (rep0 w)
  have hl : decide ((1000 : Int) < (l.length : Int)) = false := decide_eq_false (by omega)
  clear hc
  go_enter Try.func12, Try.ntmps12
  go_wp2_with fail
  go_loopw [6, 7, 8] (fun u1 u2 i wr => RPlayRel w l u1 u2 i wr) (fun _ _ i _ => l.length - (intOf i).toNat)
  case atStart => exact ⟨0, H0, [], Nat.zero_le _, rfl, HB.out, List.Perm.nil, HR.out, owns_none, owns_none, fun b hb => (by cases hb), fun b hb => (by cases hb), fun b hb => (by cases hb)⟩
  case round =>
    obtain ⟨j, g, l', hj, rfl, hb, hp, hk, h1, h2, hsep, hf1, hf2⟩ := hrel
    have gd : Good (afterF A0 (l.take j)) := good_after good0 _
    have g2 : Good2 (afterF A0 (l.take j)) := good2_after good0 good2_0 _
    have hcl : (afterF A0 (l.take j)).calls = j := by rw [after_calls]; simp [A0]; omega
    by_cases hlt : j < l.length
    · obtain ⟨gb, o, c, cc, cd, rfl, hg, hlc, c0, c1, c2, c3, c4⟩ := HC.out j hlt
      have z0 : wr.cell? ⟨gb, o + j * 5, none⟩ = some (.int .i64 c.1) := (hb.cell (p := ⟨gb, _, none⟩) hg).trans c0
      have z1 : wr.cell? ⟨gb, o + j * 5 + 1, none⟩ = some (.int .i64 c.2.1) := (hb.cell (p := ⟨gb, _, none⟩) hg).trans c1
      have z2 : wr.cell? ⟨gb, o + j * 5 + 2, none⟩ = some (.int .i64 c.2.2) := (hb.cell (p := ⟨gb, _, none⟩) hg).trans c2
      have z3 : wr.cell? ⟨gb, o + j * 5 + 3, none⟩ = some (.int .i64 cc) := (hb.cell (p := ⟨gb, _, none⟩) hg).trans c3
      have z4 : wr.cell? ⟨gb, o + j * 5 + 4, none⟩ = some (.int .i64 cd) := (hb.cell (p := ⟨gb, _, none⟩) hg).trans c4
      have hd : decide ((j : Int) < (l.length : Int)) = true := by simpa using hlt
      have hlt2 : j < l.length := hlt
      have C26 := Lib.hid (rdo_sim w.heap.size w.heap.size g _ l' _ hk hp gd g2 (by omega) c cc cd)
      have her := doF_err (afterF A0 (l.take j)) c
      have gd1 := good_doF gd c
      obtain ⟨s, hs⟩ : ∃ s, s = doF (afterF A0 (l.take j)) c := ⟨_, rfl⟩
      rw [← hs] at C26 her gd1
      obtain ⟨sv, se, a1⟩ := s
      simp only at her gd1
      obtain ⟨ua1, uc1, rfl⟩ := own_form h1
      obtain ⟨ua2, uc2, rfl⟩ := own_form h2
      have HS := Lib.hid hs
      have HBR := Lib.hid hb
      have HK := Lib.hid hk
      have F1 := Lib.hid hf1
      have F2 := Lib.hid hf2
      have H1 := Lib.hid h1
      have H2 := Lib.hid h2
      have HSEP := Lib.hid hsep
      have GD1 := Lib.hid gd1
      have HLC := Lib.hid hlc
      have he0 : 0 ≤ se := her.1
      have he1 : se ≤ 200 := her.2
      clear hs hb h1 h2 hsep gd1 gd g2 hlc hk hp hcl her hg c0 c1 c2 c3 c4 hf1 hf2
      cases hse : se != 0 with
      | true =>
        have HSE := Lib.hid hse
        clear hse
        have hse : (se != 0) = true := HSE.out
        go_wp2_with (first | (go_at_call 26; (with_reducible refine C26.out.mono ?_); rintro e w3 ⟨rfl, g3, l3, hp3, hL3⟩; have HP3 := Lib.hid hp3; have HB3 := Lib.hid (hL3.low HK.out); have sz3 : w.heap.size ≤ w3.heap.size := Nat.le_trans HBR.out.size HB3.out.size; have O1 := Lib.hid (left_row hL3 H1.out F1.out); have O2 := Lib.hid (left_row hL3 H2.out F2.out); have F13 := Lib.hid (left_off hL3 H1.out F1.out); have F23 := Lib.hid (left_off hL3 H2.out F2.out); have H3 := Lib.hid hL3.rep; clear hp3 hL3) | (go_at_call 28; (with_reducible refine R18.out.mono ?_); rintro e w5 ⟨rfl, hb5⟩; have HB5 := Lib.hid hb5; have sz5 : w.heap.size ≤ w5.heap.size := Nat.le_trans sz3 (Nat.le_trans HG4.out.size hb5.size); have P1 := Lib.hid (below_own Q1.out hb5); have P2 := Lib.hid (below_own Q2.out hb5); have H5 := Lib.hid (H4.out.below hb5); clear hb5) | (at_builtin; refine wpList_append_own_at _ rfl _ _ 23 rfl w.heap.size 3 i0 (.int .i64 0) 1 8 Try.underlying23 hi hz0 hz1 hz2 rfl (by decide) (.slice ua1 j uc1) j _ rfl (O1.out.alloc _) ⟨w3.heap.size, 0, none⟩ 1 1 [.int .i64 (-se)] rfl rfl (cell_one_new _ _ _) (by simp [Value.oneCell']) (by unfold maxLen; omega) (by omega) (by simp; omega) ?_; intro v1 w4 ho4 hg4 hnil4 hloc4; have HG4 := Lib.hid ((World.grownBy_alloc _ _ _).trans hg4); have Q1 := Lib.hid ho4; have Q2 := Lib.hid (grown_other (u1 := .slice ua1 j uc1) (u2 := .slice ua2 j uc2) O2.out HG4.out HSEP.out); have H4 := Lib.hid (grown_rep (u := .slice ua1 j uc1) H3.out HG4.out F13.out); (have hl4 : v1.ownBlock = (Value.slice ua1 j uc1).ownBlock ∨ v1.ownBlock = some (w3.heap.size + 1) := by simpa using hloc4); have SEPNEW := Lib.hid (sep_new (u1 := .slice ua1 j uc1) (u2 := .slice ua2 j uc2) O1.out O2.out HSEP.out hl4); have R18 := Lib.hid (rrun_sim _ _ _ _ _ _ H4.out HP3.out GD1.out); have E1 := Lib.hid (off_new (u := .slice ua1 j uc1) H3.out F13.out hl4); clear hl4 ho4 hg4 hnil4 hloc4) | (at_builtin; refine wpList_append_own_at _ rfl _ _ 23 rfl w.heap.size 3 i0 (.int .i64 0) 1 8 Try.underlying23 hi hz0 hz1 hz2 rfl (by decide) (.slice ua2 j uc2) j _ rfl (P2.out.alloc _) ⟨w5.heap.size, 0, none⟩ 1 1 [.int .i64 (runF a1)] rfl rfl (cell_one_new _ _ _) (by simp [Value.oneCell']) (by unfold maxLen; omega) (by omega) (by simp; omega) ?_; intro v2 w6 ho6 hg6 hnil6 hloc6; have HG6 := Lib.hid ((World.grownBy_alloc _ _ _).trans hg6); have U2 := Lib.hid ho6; (have hl6 : v2.ownBlock = (Value.slice ua2 j uc2).ownBlock ∨ v2.ownBlock = some (w5.heap.size + 1) := by simpa using hloc6); have L6 := Lib.hid hl6; have E2 := Lib.hid (off_new (u := .slice ua2 j uc2) H5.out F23.out hl6); clear hl6; clear ho6 hg6 hnil6 hloc6))
        go_roundw
        case rel =>
          have ht : l.take (j + 1) = l.take j ++ [c] := by
            have hc0 := HLC.out
            rw [List.getElem?_eq_getElem hlt] at hc0
            rw [List.take_succ_eq_append_getElem hlt]
            simp at hc0
            rw [hc0]
          have ea : afterF A0 (l.take (j + 1)) = a1 := by rw [ht, afterF_append, ← HS.out]
          have eg : playF A0 (l.take (j + 1)) = ((playF A0 (l.take j)).1 ++ [-se], (playF A0 (l.take j)).2 ++ [runF a1]) := by
            rw [ht, playF_append, ← HS.out]
            have : gaveOf (sv, se, a1) = -se := by
              unfold gaveOf
              have := HSE.out
              simp at this
              simp [this]
            rw [this]
          refine ⟨j + 1, g3, l3, by omega, by go_num, ?_, ?_, ?_, ?_, ?_, ?_, E1.out, E2.out⟩
          · refine HBR.out.trans (HB3.out.trans ?_)
            refine (((Below.refl _ _).grown HG4.out sz3 (fun k hk => (own_block O1.out hk).1)).trans (HB5.out.mono (Nat.le_trans sz3 HG4.out.size))).grown HG6.out sz5 (fun k hk => (own_block P2.out hk).1)
          · rw [ea]
            exact HP3.out
          · rw [ea]
            exact grown_rep (u := .slice ua2 j uc2) H5.out HG6.out F23.out
          · rw [eg]
            have := grown_other (u1 := .slice ua2 j uc2) P1.out HG6.out (fun b hb hb2 => SEPNEW.out b hb2 hb)
            simpa using this
          · rw [eg]
            simpa using U2.out
          · intro b hb hb2
            rcases L6.out with h6 | h6
            · rw [h6] at hb2
              exact SEPNEW.out b hb hb2
            · have hlt1 := own_lt P1.out hb
              rw [h6] at hb2
              have : w5.heap.size + 1 = b := by simpa using hb2
              omega
        case measure => simp [intOf]; omega
      | false =>
        have HSE := Lib.hid hse
        clear hse
        have hse : (se != 0) = false := HSE.out
        go_wp2_with (first | (go_at_call 26; (with_reducible refine C26.out.mono ?_); rintro e w3 ⟨rfl, g3, l3, hp3, hL3⟩; have HP3 := Lib.hid hp3; have HB3 := Lib.hid (hL3.low HK.out); have sz3 : w.heap.size ≤ w3.heap.size := Nat.le_trans HBR.out.size HB3.out.size; have O1 := Lib.hid (left_row hL3 H1.out F1.out); have O2 := Lib.hid (left_row hL3 H2.out F2.out); have F13 := Lib.hid (left_off hL3 H1.out F1.out); have F23 := Lib.hid (left_off hL3 H2.out F2.out); have H3 := Lib.hid hL3.rep; clear hp3 hL3) | (go_at_call 28; (with_reducible refine R18.out.mono ?_); rintro e w5 ⟨rfl, hb5⟩; have HB5 := Lib.hid hb5; have sz5 : w.heap.size ≤ w5.heap.size := Nat.le_trans sz3 (Nat.le_trans HG4.out.size hb5.size); have P1 := Lib.hid (below_own Q1.out hb5); have P2 := Lib.hid (below_own Q2.out hb5); have H5 := Lib.hid (H4.out.below hb5); clear hb5) | (at_builtin; refine wpList_append_own_at _ rfl _ _ 23 rfl w.heap.size 3 i0 (.int .i64 0) 1 8 Try.underlying23 hi hz0 hz1 hz2 rfl (by decide) (.slice ua1 j uc1) j _ rfl (O1.out.alloc _) ⟨w3.heap.size, 0, none⟩ 1 1 [.int .i64 (sv)] rfl rfl (cell_one_new _ _ _) (by simp [Value.oneCell']) (by unfold maxLen; omega) (by omega) (by simp; omega) ?_; intro v1 w4 ho4 hg4 hnil4 hloc4; have HG4 := Lib.hid ((World.grownBy_alloc _ _ _).trans hg4); have Q1 := Lib.hid ho4; have Q2 := Lib.hid (grown_other (u1 := .slice ua1 j uc1) (u2 := .slice ua2 j uc2) O2.out HG4.out HSEP.out); have H4 := Lib.hid (grown_rep (u := .slice ua1 j uc1) H3.out HG4.out F13.out); (have hl4 : v1.ownBlock = (Value.slice ua1 j uc1).ownBlock ∨ v1.ownBlock = some (w3.heap.size + 1) := by simpa using hloc4); have SEPNEW := Lib.hid (sep_new (u1 := .slice ua1 j uc1) (u2 := .slice ua2 j uc2) O1.out O2.out HSEP.out hl4); have R18 := Lib.hid (rrun_sim _ _ _ _ _ _ H4.out HP3.out GD1.out); have E1 := Lib.hid (off_new (u := .slice ua1 j uc1) H3.out F13.out hl4); clear hl4 ho4 hg4 hnil4 hloc4) | (at_builtin; refine wpList_append_own_at _ rfl _ _ 23 rfl w.heap.size 3 i0 (.int .i64 0) 1 8 Try.underlying23 hi hz0 hz1 hz2 rfl (by decide) (.slice ua2 j uc2) j _ rfl (P2.out.alloc _) ⟨w5.heap.size, 0, none⟩ 1 1 [.int .i64 (runF a1)] rfl rfl (cell_one_new _ _ _) (by simp [Value.oneCell']) (by unfold maxLen; omega) (by omega) (by simp; omega) ?_; intro v2 w6 ho6 hg6 hnil6 hloc6; have HG6 := Lib.hid ((World.grownBy_alloc _ _ _).trans hg6); have U2 := Lib.hid ho6; (have hl6 : v2.ownBlock = (Value.slice ua2 j uc2).ownBlock ∨ v2.ownBlock = some (w5.heap.size + 1) := by simpa using hloc6); have L6 := Lib.hid hl6; have E2 := Lib.hid (off_new (u := .slice ua2 j uc2) H5.out F23.out hl6); clear hl6; clear ho6 hg6 hnil6 hloc6))
        go_roundw
        case rel =>
          have ht : l.take (j + 1) = l.take j ++ [c] := by
            have hc0 := HLC.out
            rw [List.getElem?_eq_getElem hlt] at hc0
            rw [List.take_succ_eq_append_getElem hlt]
            simp at hc0
            rw [hc0]
          have ea : afterF A0 (l.take (j + 1)) = a1 := by rw [ht, afterF_append, ← HS.out]
          have eg : playF A0 (l.take (j + 1)) = ((playF A0 (l.take j)).1 ++ [sv], (playF A0 (l.take j)).2 ++ [runF a1]) := by
            rw [ht, playF_append, ← HS.out]
            have : gaveOf (sv, se, a1) = sv := by
              unfold gaveOf
              have := HSE.out
              simp at this
              simp [this]
            rw [this]
          refine ⟨j + 1, g3, l3, by omega, by go_num, ?_, ?_, ?_, ?_, ?_, ?_, E1.out, E2.out⟩
          · refine HBR.out.trans (HB3.out.trans ?_)
            refine (((Below.refl _ _).grown HG4.out sz3 (fun k hk => (own_block O1.out hk).1)).trans (HB5.out.mono (Nat.le_trans sz3 HG4.out.size))).grown HG6.out sz5 (fun k hk => (own_block P2.out hk).1)
          · rw [ea]
            exact HP3.out
          · rw [ea]
            exact grown_rep (u := .slice ua2 j uc2) H5.out HG6.out F23.out
          · rw [eg]
            have := grown_other (u1 := .slice ua2 j uc2) P1.out HG6.out (fun b hb hb2 => SEPNEW.out b hb2 hb)
            simpa using this
          · rw [eg]
            simpa using U2.out
          · intro b hb hb2
            rcases L6.out with h6 | h6
            · rw [h6] at hb2
              exact SEPNEW.out b hb hb2
            · have hlt1 := own_lt P1.out hb
              rw [h6] at hb2
              have : w5.heap.size + 1 = b := by simpa using hb2
              omega
        case measure => simp [intOf]; omega
    · have hjn : j = l.length := by omega
      subst hjn
      have HB1 := Lib.hid hb
      have H1 := Lib.hid h1
      have H2 := Lib.hid h2
      clear hb hk h1 h2 hsep gd g2 hcl hp hf1 hf2
      go_wp2_with fail
      go_ret3
      refine ⟨_, _, rfl, HB1.out, ⟨w.heap.size, ?_⟩, ⟨w.heap.size, ?_⟩⟩
      · rw [(playF_len A0 l).1]
        simpa using H1.out
      · rw [(playF_len A0 l).2]
        simpa using H2.out
end Go.Proofs.Ytkmgbnklfnjfjaa.Ker
/-! The specification's tasks stay sorted. -/
namespace Go.Proofs.Ytkmgbnklfnjfjaa.Ker
open Go.RowKit Go.Maps

def Srt (l : List Int) : Prop := l.Pairwise (· < ·)
theorem insF_cons (y : Int) (l : List Int) (x : Int) : insF (y :: l) x = if y < x then y :: insF l x else x :: y :: l := by
  unfold insF insAt
  by_cases h : y < x
  · rw [if_pos h, List.takeWhile_cons_of_pos (by simpa using h)]
    simp
  · rw [if_neg h, List.takeWhile_cons_of_neg (by simpa using h)]
    simp
theorem insF_srt : ∀ (l : List Int) (x : Int), Srt l → x ∉ l → Srt (insF l x)
  | [], x, _, _ => by simp [insF, insAt, Srt]
  | y :: l, x, h, hx => by
    rw [insF_cons]
    have h' := List.pairwise_cons.1 h
    simp only [List.mem_cons, not_or] at hx
    split
    · rename_i hy
      refine List.pairwise_cons.2 ⟨fun z hz => ?_, insF_srt l x h'.2 hx.2⟩
      rcases (insF_mem l x z).1 hz with rfl | hz
      · exact hy
      · exact h'.1 z hz
    · rename_i hy
      refine List.pairwise_cons.2 ⟨fun z hz => ?_, h⟩
      rcases List.mem_cons.1 hz with rfl | hz
      · omega
      · have := h'.1 z hz
        omega
theorem srt_step (a : A) (r d x y : Int) (h : Srt a.tids) : Srt (stepQ a r d x y).2.2.tids := by
  unfold stepQ
  by_cases e1 : d = 1
  · rw [if_pos e1]
    unfold createQ
    split
    · split
      · exact h
      · rename_i hn
        exact insF_srt _ _ h (fun hx => hn ⟨x, hx, .inl rfl⟩)
    · exact h
  rw [if_neg e1]
  by_cases e2 : d = 2
  · rw [if_pos e2]
    unfold removeS
    repeat' (first | exact h | exact List.Pairwise.filter _ h | split)
  rw [if_neg e2]
  by_cases e3 : d = 3
  · rw [if_pos e3]
    unfold sendQ
    repeat' (first | exact h | split)
  rw [if_neg e3]
  by_cases e4 : d = 4
  · rw [if_pos e4]
    unfold takeS
    repeat' (first | exact h | split)
  rw [if_neg e4]
  by_cases e5 : d = 5
  · rw [if_pos e5]
    unfold heldS
    repeat' (first | exact h | split)
  rw [if_neg e5]
  by_cases e6 : d = 6
  · rw [if_pos e6]
    unfold heldS
    repeat' (first | exact h | split)
  rw [if_neg e6]
  by_cases e7 : d = 7
  · rw [if_pos e7]
    unfold setS
    repeat' (first | exact h | split)
  rw [if_neg e7]
  by_cases e8 : d = 8
  · rw [if_pos e8]
    unfold testQ
    repeat' (first | exact h | split)
  rw [if_neg e8]
  by_cases e9 : d = 9
  · rw [if_pos e9]
    unfold priS
    repeat' (first | exact h | split)
  rw [if_neg e9]
  by_cases e10 : d = 10
  · rw [if_pos e10]
    unfold fetchS
    repeat' (first | exact h | split)
  rw [if_neg e10]
  by_cases e11 : d = 11
  · rw [if_pos e11]
    unfold packetS
    repeat' (first | exact h | split)
  rw [if_neg e11]
  by_cases e12 : d = 12
  · rw [if_pos e12]
    unfold deviceQ
    repeat' (first | exact h | split)
  rw [if_neg e12]
  by_cases e13 : d = 13
  · rw [if_pos e13]
    unfold waitS
    repeat' (first | exact h | split)
  rw [if_neg e13]
  exact h
theorem srt_do (a : A) (c : C3) (h : Srt a.tids) : Srt (doR a c).2.2.tids := by
  show Srt (doQ a (runF a) c.1 c.2.1 c.2.2).2.2.tids
  unfold doQ
  split
  · exact h
  · split
    · exact h
    · exact srt_step a _ _ _ _ h
end Go.Proofs.Ytkmgbnklfnjfjaa.Ker
