import Derived.Test.YtkdnkjjnmadhgaaFI
/-! A bus with one line, as a plain state. -/
namespace Go.Proofs.Ytkdnkjjnmadhgaa.Dev
open Go.RowKit Go.Maps Go.Lib

theorem SysL.keep {B : Nat} {w w' : World} {b d : Nat} {bm : BM} {lm : LM} {p : PL} (h : SysL B w b d bm lm p) (hk : ∀ k, k < w.heap.size → (k < B ∨ ∃ cur ty, w.heap[k]? = some (.cells cur ty (0, 0)) ∧ ty ≠ 46) → w'.heap[k]? = w.heap[k]?) : SysL B w' b d bm lm p := by
  refine ⟨h.bus.keep fun k hl ho => hk k hl ?_, h.line.keep fun k hl ho => hk k hl ?_, h.ds⟩
  · rcases ho with ho | ho | ho
    · obtain ⟨_, cur, ty, h2, h3⟩ := h.bus.tys (.inl ho)
      exact .inr ⟨cur, ty, h2, by rcases h3 with rfl | rfl <;> decide⟩
    · obtain ⟨_, cur, h2⟩ := own_block h.bus.rd ho
      exact .inr ⟨cur, _, h2, by decide⟩
    · obtain ⟨_, cur, ty, h2, h3⟩ := h.bus.tys (.inr ho)
      exact .inr ⟨cur, ty, h2, by rcases h3 with rfl | rfl <;> decide⟩
  · rcases ho with ho | ho | ⟨cur, ty, h2, h3⟩
    · obtain ⟨_, cur, ty, h2, h3⟩ := h.line.tys ho
      exact .inr ⟨cur, ty, h2, by rcases h3 with rfl | rfl | rfl <;> decide⟩
    · exact .inl ho
    · exact .inr ⟨cur, ty, h2, by rcases h3 with rfl | rfl <;> decide⟩
theorem RepOf.keep {B : Nat} {w w' : World} {x : Rp} {o : Ans} (h : RepOf B w x o) (hk : ∀ k, k < w.heap.size → (k < B ∨ ∃ cur, w.heap[k]? = some (.cells cur 5 (0, 0))) → w'.heap[k]? = w.heap[k]?) : RepOf B w' x o :=
  ⟨h.1, h.2.1, h.2.2.1, h.2.2.2.1, h.2.2.2.2.1, h.2.2.2.2.2.keep hk⟩

/-- A bus with one line, without memory. -/
structure LS where
  pl : PL
  now : Int
  sent : Int
  told : Int
  pend : List Ans
/-- It, in memory. -/
def LSt (w : World) (b : Nat) (s : LS) (wr : World) : Prop :=
  ∃ d bm lm, SysL w.heap.size wr b d bm lm s.pl ∧ bm.now = s.now ∧ bm.sent = s.sent ∧ bm.told = s.told ∧ All2 (RepOf w.heap.size wr) bm.rs s.pend ∧ Below w.heap.size w wr
theorem LSt.below {w : World} {b : Nat} {s : LS} {wr : World} (h : LSt w b s wr) : Below w.heap.size w wr := by
  obtain ⟨d, bm, lm, _, _, _, _, _, hb⟩ := h
  exact hb
theorem LSt.keep {w : World} {b : Nat} {s : LS} {wr w' : World} (h : LSt w b s wr) (ht : Touch wr w' (fun k => w.heap.size ≤ k ∧ ∃ cur, wr.heap[k]? = some (.cells cur 46 (0, 0)))) : LSt w b s w' := by
  obtain ⟨d, bm, lm, hs, h1, h2, h3, h4, hb⟩ := h
  have hk : ∀ k, k < wr.heap.size → (k < w.heap.size ∨ ∃ cur ty, wr.heap[k]? = some (.cells cur ty (0, 0)) ∧ ty ≠ 46) → w'.heap[k]? = wr.heap[k]? := fun k hl ho => ht.block k hl fun ⟨e1, cur, e2⟩ => by
    rcases ho with ho | ⟨cur', ty, ho, hty⟩
    · omega
    · rw [e2] at ho
      simp at ho
      exact hty ho.2.symm
  exact ⟨d, bm, lm, hs.keep hk, h1, h2, h3, h4.mono fun x y hh => hh.keep fun k hl ho => hk k hl (ho.imp id fun ⟨cur, hc⟩ => ⟨cur, 5, hc, by decide⟩), hb.trans (ht.below hb.size fun k hk => hk.1)⟩
/-- A request is handed in. -/
def sendS (s : LS) (at_ pk do_ a_ b_ : Int) (dv : Sl) (data : List Value) : LS :=
  ⟨(lineF s.pl ⟨pk, do_, a_, b_, dv, at_, s.sent⟩ data).1, at_, s.sent + 1, s.told, sortA (s.pend ++ (lineF s.pl ⟨pk, do_, a_, b_, dv, at_, s.sent⟩ data).2)⟩
/-- Replies are taken. -/
def untilS (t : Int) (s : LS) : LS := { s with now := t, told := s.told + (s.pend.takeWhile fun o => decide (o.2.1 ≤ t)).length, pend := s.pend.dropWhile fun o => decide (o.2.1 ≤ t) }
def outS (t : Int) (s : LS) : List Ans := s.pend.takeWhile fun o => decide (o.2.1 ≤ t)
theorem cut_while {α : Type} {P : α → Bool} : ∀ {l : List α} {j : Nat}, j ≤ l.length → (∀ o ∈ l.take j, P o = true) → (∀ o r, l.drop j = o :: r → P o = false) → l.take j = l.takeWhile P ∧ l.drop j = l.dropWhile P
  | [], j, _, _, _ => by simp
  | x :: l, 0, _, _, h2 => by
    have := h2 x l rfl
    simp [this]
  | x :: l, j + 1, hj, h1, h2 => by
    have hx := h1 x (by simp)
    obtain ⟨e1, e2⟩ := cut_while (l := l) (j := j) (by simpa using hj) (fun o ho => h1 o (by simp [ho])) (fun o r hr => h2 o r (by simpa using hr))
    simp [hx, e1, e2]
theorem lst_until (w : World) (b : Nat) (s : LS) (wr : World) (h : LSt w b s wr) (t : Int) (ht : s.now ≤ t) (hn : s.pend.length ≤ 100000) (htold : 0 ≤ s.told ∧ s.told ≤ 1000000) :
    Calls Try.prog 29 #[ptr b, .int .i64 t] wr fun e w' => ∃ (v : Sl) (rs : List Rp), e = .returned (slv v) ∧ HOut w.heap.size wr.heap.size w' (slv v) rs (outS t s) ∧ LSt w b (untilS t s) w' ∧ Frame3 wr w' := by
  obtain ⟨d, bm, lm, hs, h1, h2, h3, h4, hb⟩ := h
  refine (linesys_until wr w.heap.size b d bm lm s.pl hs t (by rw [h1]; exact ht) (by rw [h4.1]; exact hn) (by rw [h3]; exact htold) s.pend h4).mono ?_
  rintro e w' ⟨v, j, rfl, hj, c1, c2, ho, htc, bm', hs', k1, k2, k3, k4, k5⟩
  obtain ⟨e1, e2⟩ := cut_while (P := fun o : Ans => decide (o.2.1 ≤ t)) hj (fun o ho => by simpa using c1 o ho) (fun o r hr => by have := c2 o r hr; simp; omega)
  rw [e1] at ho
  rw [e2] at k5
  refine ⟨v, _, rfl, ho, ⟨d, bm', lm, hs', k1, k2.trans h2, ?_, k5, hb.trans (htc.below hb.size fun k hk => by rw [hk]; exact hs.bus.low)⟩, fun k cur ty hc ht => htc.block k (blt hc) fun e => ?_⟩
  · rw [k3, h3]
    show _ = s.told + ((s.pend.takeWhile fun o => decide (o.2.1 ≤ t)).length : Int)
    rw [← e1, List.length_take]
    omega
  · subst e
    rw [hs.bus.cells] at hc
    simp at hc
    obtain ⟨_, rfl⟩ := hc
    simp at ht
theorem lst_send (w : World) (b : Nat) (s : LS) (wr : World) (h : LSt w b s wr) (hf : LFit s.pl) (at_ pk do_ a_ b_ : Int) (dv : Sl) (data : List Value) (hdata : Held w.heap.size 5 w dv data) (hdl : data.length ≤ 64)
    (hat : s.now ≤ at_) (hat0 : 0 ≤ at_) (hat1 : at_ ≤ 1000000000) (hdo : do_ = 1 ∨ do_ = 2) (hsent : 0 ≤ s.sent ∧ s.sent < 400) (hn : s.pend.length ≤ 100000) (hos : (lineF s.pl ⟨pk, do_, a_, b_, dv, at_, s.sent⟩ data).2.length ≤ 1000)
    (hu : ∀ x ∈ s.pend ++ (lineF s.pl ⟨pk, do_, a_, b_, dv, at_, s.sent⟩ data).2, ∀ y ∈ s.pend ++ (lineF s.pl ⟨pk, do_, a_, b_, dv, at_, s.sent⟩ data).2, x.1.ord = y.1.ord → x = y) :
    Calls Try.prog 28 #[ptr b, .int .i64 1, .int .i64 at_, .agg #[.int .i64 pk, .int .i64 do_, .int .i64 a_, .int .i64 b_, slv dv]] wr fun e w' => e = .returned (.int .i64 0) ∧ LSt w b (sendS s at_ pk do_ a_ b_ dv data) w' ∧ Frame3 wr w' := by
  obtain ⟨d, bm, lm, hs, h1, h2, h3, h4, hb⟩ := h
  have hd2 : Held w.heap.size 5 wr dv data := hdata.keep fun k hk _ => hb.block k hk
  rw [← h2] at hos hu hsent
  refine (linesys_send wr w.heap.size b d bm lm s.pl hs hf at_ pk do_ a_ b_ dv data hd2 hdl (by rw [h1]; exact hat) hat0 hat1 hdo hsent (by rw [h4.1]; exact hn) hos).mono ?_
  rintro e w' ⟨rfl, ⟨bm', lm', rs1, k1, k2, k3, k4, k5, k6, k7⟩, kt⟩
  have hfr : Frame3 wr w' := fun k cur ty hc ht => kt.block k (blt hc) fun e => by
    obtain ⟨_, cur', ty', hc', ht'⟩ := hs.tys e
    rw [hc] at hc'
    simp at hc'
    obtain ⟨_, rfl⟩ := hc'
    rcases ht with rfl | rfl | rfl <;> simp at ht'
  have hbw : Below w.heap.size w w' := hb.trans (kt.below hb.size fun k hk => (hs.tys hk).1)
  have h5 : All2 (RepOf w.heap.size w') bm.rs s.pend := h4.mono fun x y hh => hh.keep fun k hk ho => by
    rcases ho with ho | ⟨cur, ho⟩
    · exact (hbw.block k ho).trans (hb.block k ho).symm
    · exact hfr k cur 5 ho (.inr (.inr rfl))
  refine ⟨rfl, ⟨d, bm', lm', ?_, k3, ?_, k5.trans h3, ?_, hbw⟩, hfr⟩
  · rw [h2] at k1; exact k1
  · rw [k4, h2]; rfl
  · have := rep_sorted k6 k7 (h5.append k2) hu
    rw [h2] at this
    exact this
end Go.Proofs.Ytkdnkjjnmadhgaa.Dev
