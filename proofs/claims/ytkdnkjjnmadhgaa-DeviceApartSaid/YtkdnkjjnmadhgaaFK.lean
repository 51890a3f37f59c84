import Derived.Test.YtkdnkjjnmadhgaaFG
import Derived.Test.YtkdnkjjnmadhgaaFF
set_option linter.unusedVariables false
set_option linter.unusedSimpArgs false
/-! Replies are taken from a bus with one line. -/
namespace Go.Proofs.Ytkdnkjjnmadhgaa.Dev
open Go.RowKit Go.Maps Go.Lib

theorem All2.take {α β : Type} {R : α → β → Prop} {l : List α} {m : List β} (h : All2 R l m) (j : Nat) : All2 R (l.take j) (m.take j) := by
  refine ⟨by rw [List.length_take, List.length_take, h.1], fun i x y hx hy => ?_⟩
  by_cases hi : i < j
  · rw [List.getElem?_take_of_lt hi] at hx hy
    exact h.2 i x y hx hy
  · rw [List.getElem?_eq_none (by rw [List.length_take]; omega)] at hx
    cases hx
theorem All2.drop {α β : Type} {R : α → β → Prop} {l : List α} {m : List β} (h : All2 R l m) (j : Nat) : All2 R (l.drop j) (m.drop j) := by
  refine ⟨by rw [List.length_drop, List.length_drop, h.1], fun i x y hx hy => ?_⟩
  rw [List.getElem?_drop] at hx hy
  exact h.2 _ x y hx hy
/-- What Until gives of a bus with one line. -/
def UntilLP (B : Nat) (w : World) (b d : Nat) (bm : BM) (lm : LM) (p : PL) (pend : List Ans) (t : Int) (e : Ending) (w' : World) : Prop :=
  ∃ (v : Sl) (j : Nat), e = .returned (slv v) ∧ j ≤ pend.length ∧ (∀ o ∈ pend.take j, o.2.1 ≤ t) ∧ (∀ o l, pend.drop j = o :: l → t < o.2.1) ∧ HOut B w.heap.size w' (slv v) (bm.rs.take j) (pend.take j) ∧ Touch w w' (· = b) ∧
    ∃ bm', SysL B w' b d bm' lm p ∧ bm'.now = t ∧ bm'.sent = bm.sent ∧ bm'.told = bm.told + j ∧ bm'.rs = bm.rs.drop j ∧ All2 (RepOf B w') bm'.rs (pend.drop j)
theorem linesys_until (w : World) (B b d : Nat) (bm : BM) (lm : LM) (p : PL) (h : SysL B w b d bm lm p) (t : Int) (ht : bm.now ≤ t) (hn : bm.rs.length ≤ 100000) (htold : 0 ≤ bm.told ∧ bm.told ≤ 1000000) (pend : List Ans) (ha : All2 (RepOf B w) bm.rs pend) :
    Calls Try.prog 29 #[ptr b, .int .i64 t] w fun e w' => UntilLP B w b d bm lm p pend t e w' := by
  refine (until_any w B b bm h.bus t ht hn htold).mono ?_
  rintro e w' ⟨v, j, rfl, hj, h1, h2, hrow, htc, vr, hb, _⟩
  have hty : ∀ k, k = b → B ≤ k ∧ ∃ cur ty, w.heap[k]? = some (.cells cur ty (0, 0)) ∧ (ty = 80 ∨ ty = 95) := fun k hk => h.bus.tys (.inl hk)
  have hrep : ∀ x y, RepOf B w x y → RepOf B w' x y := fun x y hh => ⟨hh.1, hh.2.1, hh.2.2.1, hh.2.2.2.1, hh.2.2.2.2.1, hh.2.2.2.2.2.touch5 htc fun k hk => by
    obtain ⟨h3, cur, ty, h4, h5⟩ := hty k hk
    exact ⟨h3, cur, ty, h4, by rcases h5 with rfl | rfl <;> decide⟩⟩
  have hlen : bm.rs.length = pend.length := ha.1
  refine ⟨v, j, rfl, by omega, fun o ho => ?_, fun o l ho => ?_, ⟨?_, ?_⟩, htc, _, ⟨hb, h.line.touch htc hty, h.ds⟩, rfl, rfl, rfl, rfl, (ha.drop j).mono hrep⟩
  · obtain ⟨i, hi, rfl⟩ := List.mem_iff_getElem.1 ho
    have hl := (ha.take j).1
    have hx := (ha.take j).2 i _ _ (List.getElem?_eq_getElem (by omega)) (List.getElem?_eq_getElem hi)
    rw [← hx.2.1]
    exact h1 _ (List.getElem_mem _)
  · have hd := ha.drop j
    rw [ho] at hd
    cases hr : bm.rs.drop j with
    | nil => rw [hr] at hd; have := hd.1; simp at this
    | cons x l' =>
      rw [hr] at hd
      have hx := hd.2 0 x o rfl rfl
      rw [← hx.2.1]
      exact h2 x l' hr
  · have e1 : (bm.rs.take j).length = j := by rw [List.length_take]; omega
    rw [e1]
    exact hrow
  · exact (ha.take j).mono fun x y hh => ⟨hh.1, hh.2.1, hh.2.2.1, hh.2.2.2.2.1, (hrep x y hh).2.2.2.2.2⟩
end Go.Proofs.Ytkdnkjjnmadhgaa.Dev
/-! Replies in their order, in plain lists. -/
namespace Go.Proofs.Ytkdnkjjnmadhgaa.Dev
open Go.RowKit Go.Maps Go.Lib

section
variable {α β : Type} {R : α → β → Prop}
theorem All2.cons {x : α} {y : β} {l : List α} {m : List β} (hxy : R x y) (h : All2 R l m) : All2 R (x :: l) (y :: m) := by
  refine ⟨by simp [h.1], fun i a b ha hb => ?_⟩
  cases i with
  | zero => simp at ha hb; subst ha hb; exact hxy
  | succ i => exact h.2 i a b (by simpa using ha) (by simpa using hb)
theorem All2.uncons {x : α} {l : List α} {m : List β} (h : All2 R (x :: l) m) : ∃ y m', m = y :: m' ∧ R x y ∧ All2 R l m' := by
  cases m with
  | nil => have := h.1; simp at this
  | cons y m => exact ⟨y, m, rfl, h.2 0 x y rfl rfl, by have := h.1; simpa using this, fun i a b ha hb => h.2 (i + 1) a b (by simpa using ha) (by simpa using hb)⟩
theorem All2.append {l l' : List α} {m m' : List β} (h : All2 R l m) (h' : All2 R l' m') : All2 R (l ++ l') (m ++ m') := by
  refine ⟨by simp [h.1, h'.1], fun i a b ha hb => ?_⟩
  by_cases hi : i < l.length
  · rw [List.getElem?_append_left hi] at ha
    rw [List.getElem?_append_left (by rw [← h.1]; exact hi)] at hb
    exact h.2 i a b ha hb
  · rw [List.getElem?_append_right (by omega)] at ha
    rw [List.getElem?_append_right (by rw [← h.1]; omega), ← h.1] at hb
    exact h'.2 _ a b ha hb
theorem All2.perm {l l' : List α} (hp : l.Perm l') : ∀ {m : List β}, All2 R l m → ∃ m', All2 R l' m' ∧ m.Perm m' := by
  induction hp with
  | nil => intro m h; exact ⟨m, h, List.Perm.refl _⟩
  | cons x _ ih =>
    intro m h
    obtain ⟨y, m1, rfl, hxy, h1⟩ := h.uncons
    obtain ⟨m2, h2, hp2⟩ := ih h1
    exact ⟨y :: m2, h2.cons hxy, hp2.cons y⟩
  | swap x y l =>
    intro m h
    obtain ⟨a, m1, rfl, ha, h1⟩ := h.uncons
    obtain ⟨b, m2, rfl, hb, h2⟩ := h1.uncons
    exact ⟨b :: a :: m2, (h2.cons ha).cons hb, List.Perm.swap _ _ _⟩
  | trans _ _ ih1 ih2 =>
    intro m h
    obtain ⟨m1, h1, p1⟩ := ih1 h
    obtain ⟨m2, h2, p2⟩ := ih2 h1
    exact ⟨m2, h2, p1.trans p2⟩
end
/-- One reply comes ahead of another, or is it. -/
def ansLe (a b : Ans) : Bool := decide (a.2.1 < b.2.1 ∨ (a.2.1 = b.2.1 ∧ a.1.ord ≤ b.1.ord))
def sortA (l : List Ans) : List Ans := l.mergeSort ansLe
theorem sortA_perm (l : List Ans) : (sortA l).Perm l := List.mergeSort_perm l ansLe
theorem sortA_sorted (l : List Ans) : (sortA l).Pairwise (fun a b => ansLe a b = true) :=
  List.pairwise_mergeSort (fun a b c h1 h2 => by unfold ansLe at *; rw [decide_eq_true_iff] at *; omega) (fun a b => by unfold ansLe; by_cases h : a.2.1 < b.2.1 ∨ (a.2.1 = b.2.1 ∧ a.1.ord ≤ b.1.ord) <;> simp [h]; omega) l
/-- The one list that is sorted. -/
theorem ans_one : ∀ {l m : List Ans}, l.Perm m → l.Pairwise (fun a b => ansLe a b = true) → m.Pairwise (fun a b => ansLe a b = true) → (∀ a ∈ l, ∀ b ∈ l, a.1.ord = b.1.ord → a = b) → l = m
  | [], m, hp, _, _, _ => List.Perm.nil_eq hp
  | x :: l, [], hp, _, _, _ => by simp at hp
  | x :: l, y :: m, hp, hl, hm, hu => by
    have hxy : x = y := by
      by_cases e : x = y
      · exact e
      have hy : y ∈ l := by
        have : y ∈ x :: l := hp.mem_iff.2 (by simp)
        rcases List.mem_cons.1 this with h | h
        · exact absurd h.symm e
        · exact h
      have hx : x ∈ m := by
        have : x ∈ y :: m := hp.mem_iff.1 (by simp)
        rcases List.mem_cons.1 this with h | h
        · exact absurd h e
        · exact h
      have h1 := (List.pairwise_cons.1 hl).1 y hy
      have h2 := (List.pairwise_cons.1 hm).1 x hx
      unfold ansLe at h1 h2
      rw [decide_eq_true_iff] at h1 h2
      exact hu x (by simp) y (by simp [hy]) (by omega)
    subst hxy
    rw [ans_one ((List.perm_cons x).1 hp) (List.pairwise_cons.1 hl).2 (List.pairwise_cons.1 hm).2 fun a ha b hb => hu a (by simp [ha]) b (by simp [hb])]
/-- A sorted row of the bus stands for the sorted plain list. -/
theorem rep_sorted {B : Nat} {w : World} {rs rs0 : List Rp} {l : List Ans} (hp : rs.Perm rs0) (hs : rs.Pairwise (fun x y => ¬ RLt y x)) (ha : All2 (RepOf B w) rs0 l) (hu : ∀ a ∈ l, ∀ b ∈ l, a.1.ord = b.1.ord → a = b) : All2 (RepOf B w) rs (sortA l) := by
  obtain ⟨m, hm, pm⟩ := All2.perm hp.symm ha
  have hms : m.Pairwise (fun a b => ansLe a b = true) := by
    rw [List.pairwise_iff_getElem] at hs ⊢
    intro i j hi hj hij
    have hlen := hm.1
    have h1 := hs i j (by omega) (by omega) hij
    have hx := hm.2 i _ _ (List.getElem?_eq_getElem (by omega)) (List.getElem?_eq_getElem hi)
    have hy := hm.2 j _ _ (List.getElem?_eq_getElem (by omega)) (List.getElem?_eq_getElem hj)
    unfold ansLe
    rw [decide_eq_true_iff]
    unfold RLt at h1
    rw [hx.2.1, hy.2.1, hx.2.2.2.1, hy.2.2.2.1, hx.2.2.2.2.1, hy.2.2.2.2.1] at h1
    omega
  have e : m = sortA l := ans_one (pm.symm.trans (sortA_perm l).symm) hms (sortA_sorted l) fun a h1 b h2 => hu a (pm.mem_iff.2 h1) b (pm.mem_iff.2 h2)
  rw [← e]
  exact hm
end Go.Proofs.Ytkdnkjjnmadhgaa.Dev
/-! A bus with one line, as a plain state. -/
namespace Go.Proofs.Ytkdnkjjnmadhgaa.Dev
open Go.RowKit Go.Maps Go.Lib

theorem SysL.keep {B : Nat} {w w' : World} {b d : Nat} {bm : BM} {lm : LM} {p : PL} (h : SysL B w b d bm lm p) (hk : ∀ k, k < w.heap.size → (k < B ∨ ∃ cur ty, w.heap[k]? = some (.cells cur ty (0, 0)) ∧ ty ≠ 46) → w'.heap[k]? = w.heap[k]?) : SysL B w' b d bm lm p := by
  refine ⟨h.bus.keep fun k hl ho => hk k hl ?_, h.line.keep fun k hl ho => hk k hl ?_, h.ds⟩
  · rcases ho with ho | ho | ho
    · obtain ⟨_, cur, ty, h2, h3⟩ := h.bus.tys (.inl ho)
      exact .inr ⟨cur, ty, h2, by rcases h3 with rfl | rfl <;> decide⟩
    · obtain ⟨_, cur, h2⟩ := own_block h.bus.rd ho
      exact .inr ⟨cur, _, h2, by decide⟩
    · obtain ⟨_, cur, ty, h2, h3⟩ := h.bus.tys (.inr ho)
      exact .inr ⟨cur, ty, h2, by rcases h3 with rfl | rfl <;> decide⟩
  · rcases ho with ho | ho | ⟨cur, ty, h2, h3⟩
    · obtain ⟨_, cur, ty, h2, h3⟩ := h.line.tys ho
      exact .inr ⟨cur, ty, h2, by rcases h3 with rfl | rfl | rfl <;> decide⟩
    · exact .inl ho
    · exact .inr ⟨cur, ty, h2, by rcases h3 with rfl | rfl <;> decide⟩
theorem RepOf.keep {B : Nat} {w w' : World} {x : Rp} {o : Ans} (h : RepOf B w x o) (hk : ∀ k, k < w.heap.size → (k < B ∨ ∃ cur, w.heap[k]? = some (.cells cur 5 (0, 0))) → w'.heap[k]? = w.heap[k]?) : RepOf B w' x o :=
  ⟨h.1, h.2.1, h.2.2.1, h.2.2.2.1, h.2.2.2.2.1, h.2.2.2.2.2.keep hk⟩

/-- A bus with one line, without memory. -/
structure LS where
  pl : PL
  now : Int
  sent : Int
  told : Int
  pend : List Ans
/-- It, in memory. -/
def LSt (w : World) (b : Nat) (s : LS) (wr : World) : Prop :=
  ∃ d bm lm, SysL w.heap.size wr b d bm lm s.pl ∧ bm.now = s.now ∧ bm.sent = s.sent ∧ bm.told = s.told ∧ All2 (RepOf w.heap.size wr) bm.rs s.pend ∧ Below w.heap.size w wr
theorem LSt.below {w : World} {b : Nat} {s : LS} {wr : World} (h : LSt w b s wr) : Below w.heap.size w wr := by
  obtain ⟨d, bm, lm, _, _, _, _, _, hb⟩ := h
  exact hb
theorem LSt.keep {w : World} {b : Nat} {s : LS} {wr w' : World} (h : LSt w b s wr) (ht : Touch wr w' (fun k => w.heap.size ≤ k ∧ ∃ cur, wr.heap[k]? = some (.cells cur 46 (0, 0)))) : LSt w b s w' := by
  obtain ⟨d, bm, lm, hs, h1, h2, h3, h4, hb⟩ := h
  have hk : ∀ k, k < wr.heap.size → (k < w.heap.size ∨ ∃ cur ty, wr.heap[k]? = some (.cells cur ty (0, 0)) ∧ ty ≠ 46) → w'.heap[k]? = wr.heap[k]? := fun k hl ho => ht.block k hl fun ⟨e1, cur, e2⟩ => by
    rcases ho with ho | ⟨cur', ty, ho, hty⟩
    · omega
    · rw [e2] at ho
      simp at ho
      exact hty ho.2.symm
  exact ⟨d, bm, lm, hs.keep hk, h1, h2, h3, h4.mono fun x y hh => hh.keep fun k hl ho => hk k hl (ho.imp id fun ⟨cur, hc⟩ => ⟨cur, 5, hc, by decide⟩), hb.trans (ht.below hb.size fun k hk => hk.1)⟩
/-- A request is handed in. -/
def sendS (s : LS) (at_ pk do_ a_ b_ : Int) (dv : Sl) (data : List Value) : LS :=
  ⟨(lineF s.pl ⟨pk, do_, a_, b_, dv, at_, s.sent⟩ data).1, at_, s.sent + 1, s.told, sortA (s.pend ++ (lineF s.pl ⟨pk, do_, a_, b_, dv, at_, s.sent⟩ data).2)⟩
/-- Replies are taken. -/
def untilS (t : Int) (s : LS) : LS := { s with now := t, told := s.told + (s.pend.takeWhile fun o => decide (o.2.1 ≤ t)).length, pend := s.pend.dropWhile fun o => decide (o.2.1 ≤ t) }
def outS (t : Int) (s : LS) : List Ans := s.pend.takeWhile fun o => decide (o.2.1 ≤ t)
theorem cut_while {α : Type} {P : α → Bool} : ∀ {l : List α} {j : Nat}, j ≤ l.length → (∀ o ∈ l.take j, P o = true) → (∀ o r, l.drop j = o :: r → P o = false) → l.take j = l.takeWhile P ∧ l.drop j = l.dropWhile P
  | [], j, _, _, _ => by simp
  | x :: l, 0, _, _, h2 => by
    have := h2 x l rfl
    simp [this]
  | x :: l, j + 1, hj, h1, h2 => by
    have hx := h1 x (by simp)
    obtain ⟨e1, e2⟩ := cut_while (l := l) (j := j) (by simpa using hj) (fun o ho => h1 o (by simp [ho])) (fun o r hr => h2 o r (by simpa using hr))
    simp [hx, e1, e2]
theorem lst_until (w : World) (b : Nat) (s : LS) (wr : World) (h : LSt w b s wr) (t : Int) (ht : s.now ≤ t) (hn : s.pend.length ≤ 100000) (htold : 0 ≤ s.told ∧ s.told ≤ 1000000) :
    Calls Try.prog 29 #[ptr b, .int .i64 t] wr fun e w' => ∃ (v : Sl) (rs : List Rp), e = .returned (slv v) ∧ HOut w.heap.size wr.heap.size w' (slv v) rs (outS t s) ∧ LSt w b (untilS t s) w' ∧ Frame3 wr w' := by
  obtain ⟨d, bm, lm, hs, h1, h2, h3, h4, hb⟩ := h
  refine (linesys_until wr w.heap.size b d bm lm s.pl hs t (by rw [h1]; exact ht) (by rw [h4.1]; exact hn) (by rw [h3]; exact htold) s.pend h4).mono ?_
  rintro e w' ⟨v, j, rfl, hj, c1, c2, ho, htc, bm', hs', k1, k2, k3, k4, k5⟩
  obtain ⟨e1, e2⟩ := cut_while (P := fun o : Ans => decide (o.2.1 ≤ t)) hj (fun o ho => by simpa using c1 o ho) (fun o r hr => by have := c2 o r hr; simp; omega)
  rw [e1] at ho
  rw [e2] at k5
  refine ⟨v, _, rfl, ho, ⟨d, bm', lm, hs', k1, k2.trans h2, ?_, k5, hb.trans (htc.below hb.size fun k hk => by rw [hk]; exact hs.bus.low)⟩, fun k cur ty hc ht => htc.block k (blt hc) fun e => ?_⟩
  · rw [k3, h3]
    show _ = s.told + ((s.pend.takeWhile fun o => decide (o.2.1 ≤ t)).length : Int)
    rw [← e1, List.length_take]
    omega
  · subst e
    rw [hs.bus.cells] at hc
    simp at hc
    obtain ⟨_, rfl⟩ := hc
    simp at ht
theorem lst_send (w : World) (b : Nat) (s : LS) (wr : World) (h : LSt w b s wr) (hf : LFit s.pl) (at_ pk do_ a_ b_ : Int) (dv : Sl) (data : List Value) (hdata : Held w.heap.size 5 w dv data) (hdl : data.length ≤ 64)
    (hat : s.now ≤ at_) (hat0 : 0 ≤ at_) (hat1 : at_ ≤ 1000000000) (hdo : do_ = 1 ∨ do_ = 2) (hsent : 0 ≤ s.sent ∧ s.sent < 400) (hn : s.pend.length ≤ 100000) (hos : (lineF s.pl ⟨pk, do_, a_, b_, dv, at_, s.sent⟩ data).2.length ≤ 1000)
    (hu : ∀ x ∈ s.pend ++ (lineF s.pl ⟨pk, do_, a_, b_, dv, at_, s.sent⟩ data).2, ∀ y ∈ s.pend ++ (lineF s.pl ⟨pk, do_, a_, b_, dv, at_, s.sent⟩ data).2, x.1.ord = y.1.ord → x = y) :
    Calls Try.prog 28 #[ptr b, .int .i64 1, .int .i64 at_, .agg #[.int .i64 pk, .int .i64 do_, .int .i64 a_, .int .i64 b_, slv dv]] wr fun e w' => e = .returned (.int .i64 0) ∧ LSt w b (sendS s at_ pk do_ a_ b_ dv data) w' ∧ Frame3 wr w' := by
  obtain ⟨d, bm, lm, hs, h1, h2, h3, h4, hb⟩ := h
  have hd2 : Held w.heap.size 5 wr dv data := hdata.keep fun k hk _ => hb.block k hk
  rw [← h2] at hos hu hsent
  refine (linesys_send wr w.heap.size b d bm lm s.pl hs hf at_ pk do_ a_ b_ dv data hd2 hdl (by rw [h1]; exact hat) hat0 hat1 hdo hsent (by rw [h4.1]; exact hn) hos).mono ?_
  rintro e w' ⟨rfl, ⟨bm', lm', rs1, k1, k2, k3, k4, k5, k6, k7⟩, kt⟩
  have hfr : Frame3 wr w' := fun k cur ty hc ht => kt.block k (blt hc) fun e => by
    obtain ⟨_, cur', ty', hc', ht'⟩ := hs.tys e
    rw [hc] at hc'
    simp at hc'
    obtain ⟨_, rfl⟩ := hc'
    rcases ht with rfl | rfl | rfl <;> simp at ht'
  have hbw : Below w.heap.size w w' := hb.trans (kt.below hb.size fun k hk => (hs.tys hk).1)
  have h5 : All2 (RepOf w.heap.size w') bm.rs s.pend := h4.mono fun x y hh => hh.keep fun k hk ho => by
    rcases ho with ho | ⟨cur, ho⟩
    · exact (hbw.block k ho).trans (hb.block k ho).symm
    · exact hfr k cur 5 ho (.inr (.inr rfl))
  refine ⟨rfl, ⟨d, bm', lm', ?_, k3, ?_, k5.trans h3, ?_, hbw⟩, hfr⟩
  · rw [h2] at k1; exact k1
  · rw [k4, h2]; rfl
  · have := rep_sorted k6 k7 (h5.append k2) hu
    rw [h2] at this
    exact this
end Go.Proofs.Ytkdnkjjnmadhgaa.Dev
/-! DeviceLines, the plain law: what comes of the plan. -/
namespace Go.Proofs.Ytkdnkjjnmadhgaa.Dev

/-- The reply to a receive. -/
def isRec (o : Ans) : Bool := decide (o.1.do_ = 1)
def Sorted (l : List Ans) : Prop := l.Pairwise (fun a b => ansLe a b = true)
theorem sorted_snoc {l : List Ans} {x : Ans} (h : Sorted l) (hx : ∀ a ∈ l, ansLe a x = true) : Sorted (l ++ [x]) := by
  unfold Sorted
  rw [List.pairwise_append]
  exact ⟨h, List.pairwise_singleton _ _, fun a ha b hb => by rw [List.mem_singleton.1 hb]; exact hx a ha⟩
/-- A new last receive is the last of the receives. -/
theorem rec_last {l : List Ans} {x : Ans} (h : Sorted l) (hr : isRec x = true) (hx : ∀ a ∈ l, isRec a = true → ansLe a x = true) (hu : ∀ a ∈ l ++ [x], ∀ b ∈ l ++ [x], a.1.ord = b.1.ord → a = b) : (sortA (l ++ [x])).filter isRec = l.filter isRec ++ [x] := by
  have e1 : (l ++ [x]).filter isRec = l.filter isRec ++ [x] := by rw [List.filter_append]; simp [hr]
  refine ans_one (((sortA_perm _).filter isRec).trans (by rw [e1])) ((sortA_sorted _).filter _) (sorted_snoc (List.Pairwise.filter _ h) fun a ha => ?_) fun a ha b hb => ?_
  · obtain ⟨h1, h2⟩ := List.mem_filter.1 ha
    exact hx a h1 h2
  · exact hu a ((sortA_perm _).mem_iff.1 (List.mem_filter.1 ha).1) b ((sortA_perm _).mem_iff.1 (List.mem_filter.1 hb).1)
/-- Another reply leaves the receives. -/
theorem rec_same {l : List Ans} {x : Ans} (h : Sorted l) (hr : isRec x = false) (hu : ∀ a ∈ l ++ [x], ∀ b ∈ l ++ [x], a.1.ord = b.1.ord → a = b) : (sortA (l ++ [x])).filter isRec = l.filter isRec := by
  have e1 : (l ++ [x]).filter isRec = l.filter isRec := by rw [List.filter_append]; simp [hr]
  refine ans_one (((sortA_perm _).filter isRec).trans (by rw [e1])) ((sortA_sorted _).filter _) (List.Pairwise.filter _ h) fun a ha b hb => ?_
  exact hu a ((sortA_perm _).mem_iff.1 (List.mem_filter.1 ha).1) b ((sortA_perm _).mem_iff.1 (List.mem_filter.1 hb).1)
theorem sortA_of_sorted {l : List Ans} (h : Sorted l) (hu : ∀ a ∈ l, ∀ b ∈ l, a.1.ord = b.1.ord → a = b) : sortA l = l :=
  ans_one (sortA_perm l) (sortA_sorted l) h fun a ha b hb => hu a ((sortA_perm l).mem_iff.1 ha) b ((sortA_perm l).mem_iff.1 hb)

/-- The plan's requests: the messages, then the receives. -/
def lineRq (ms : List (Sl × List Value)) (i : Nat) : Int × Int × Int × Int × Sl :=
  match ms[i]? with
  | some m => (1000 + i, 2, 0, 0, m.1)
  | none => ((i : Int) - ms.length, 1, 0, 0, (none, 0, 0))
def lineDat (ms : List (Sl × List Value)) (i : Nat) : List Value :=
  match ms[i]? with
  | some m => m.2
  | none => []
def lineSend (ms : List (Sl × List Value)) (i : Nat) (s : LS) : LS :=
  sendS s ((i / 3 : Nat) : Int) (lineRq ms i).1 (lineRq ms i).2.1 (lineRq ms i).2.2.1 (lineRq ms i).2.2.2.1 (lineRq ms i).2.2.2.2 (lineDat ms i)
/-- Behind i requests and k looks. -/
structure LR (ms : List (Sl × List Value)) (lk : Nat → Int) (i k : Nat) (s : LS) (os : List Ans) : Prop where
  sent : s.sent = i
  told : s.told = os.length
  now0 : 0 ≤ s.now
  now : s.now ≤ (((i - 1) / 3 : Nat) : Int) ∨ ∃ k', k' < k ∧ s.now = lk k' ∧ lk k' ≤ ((i / 3 : Nat) : Int)
  lost : s.pl.lost = []
  plsent : s.pl.sent = (min i ms.length : Nat)
  free0 : 0 ≤ s.pl.free
  free1 : s.pl.free ≤ 100 + 10 * i
  recv : s.pl.recv ≤ 100 + 10 * i
  mat : ∀ m ∈ s.pl.msgs, m.1 ≤ 100 + 10 * i
  msgs : s.pl.msgs.map (·.2) = ((ms.take i).drop (i - ms.length)).map (·.2)
  wait : s.pl.wait.length = i - ms.length - ms.length
  some_ : s.pl.wait = [] ∨ s.pl.msgs = []
  recs : ((os ++ s.pend).filter isRec).map (fun o => (o.1.pk, o.2.2.1, o.2.2.2)) = (ms.take (i - ms.length)).mapIdx fun c m => ((c : Int), (m.2.length : Int), m.2)
  recAt : ∀ o ∈ os ++ s.pend, isRec o = true → o.2.1 ≤ s.pl.recv
  sends : ∀ o ∈ os ++ s.pend, isRec o = false → 1000 ≤ o.1.pk
  ords : ∀ o ∈ os ++ s.pend, 0 ≤ o.1.ord ∧ o.1.ord < i
  uniq : (os ++ s.pend).Pairwise (fun a b => a.1.ord ≠ b.1.ord)
  len : (os ++ s.pend).length = min i ms.length + min (i - ms.length) ms.length
  ats : ∀ o ∈ s.pend, o.2.1 ≤ 100 + 10 * i
  sort : Sorted s.pend
end Go.Proofs.Ytkdnkjjnmadhgaa.Dev
