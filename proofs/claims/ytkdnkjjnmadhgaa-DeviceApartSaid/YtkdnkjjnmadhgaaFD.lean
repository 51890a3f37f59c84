import Derived.Test.YtkdnkjjnmadhgaaFA
import Derived.Deep.CutBlock
set_option linter.unusedVariables false
set_option linter.unusedSimpArgs false
/-! A line does a request. -/
namespace Go.Proofs.Ytkdnkjjnmadhgaa.Dev
open Go.RowKit Go.Maps Go.Lib

/-- A reply: to which request, when, with what. -/
abbrev Ans := Rq × Int × Int × List Value
/-- Replies in memory. -/
structure OutRep (B : Nat) (base : Nat) (w : World) (v : Value) (rs : List Rp) (os : List Ans) : Prop where
  row : w.ownsRow base 95 6 v rs.length (rs.flatMap encR)
  ans : All2 (fun r o => r.pk = o.1.pk ∧ r.at_ = o.2.1 ∧ r.res = o.2.2.1 ∧ r.dev = 0 ∧ r.ord = o.1.ord ∧ Held B 5 w r.dv o.2.2.2) rs os
/-- When a message has gone out. -/
def goneF (p : PL) (q : Rq) (n : Nat) : Int := max q.at_ p.free + max 1 (((n : Int) + 7) / 8)
/-- The request is put to the others. -/
def addF (p : PL) (q : Rq) (data : List Value) : PL × List Ans :=
  if q.do_ = 1 then ({ p with wait := p.wait ++ [q] }, [])
  else ({ p with free := goneF p q data.length, sent := p.sent + 1, msgs := if p.sent + 1 ∈ p.lost then p.msgs else p.msgs ++ [(goneF p q data.length, data)] }, [(q, goneF p q data.length, 0, [])])
/-- Messages meet receives. -/
def meetF (p : PL) : PL × List Ans :=
  let x := matchF p.recv p.wait p.msgs
  ({ p with recv := x.1, wait := x.2.1, msgs := x.2.2.1 }, x.2.2.2.map fun y => (y.1, y.2.1, (y.2.2.length : Int), y.2.2))
/-- What a line does. -/
def lineF (p : PL) (q : Rq) (data : List Value) : PL × List Ans :=
  let x := addF p q data
  let y := meetF x.1
  (y.1, x.2 ++ y.2)
/-- The numbers of a line are as they should be. -/
structure LFit (p : PL) : Prop where
  f0 : 0 ≤ p.free
  f1 : p.free ≤ 2000000000
  s0 : 0 ≤ p.sent
  s1 : p.sent ≤ 1000000
  nl : p.lost.length ≤ 100000
  nm : p.msgs.length ≤ 100000
  nw : p.wait.length ≤ 100000
  md : ∀ x ∈ p.msgs, x.2.length ≤ 1000000
/-- Behind the request's putting. -/
structure Added (B : Nat) (w : World) (d : Nat) (m : LM) (base : Nat) (p1 : PL) (os : List Ans) (v : Value) (wx : World) : Prop where
  ex : ∃ m1 rs, LRep B wx d m1 p1 ∧ OutRep B base wx v rs os ∧ (∀ k, OwnL d m1 k → OwnL d m k ∨ w.heap.size ≤ k)
  touch : Touch w wx (OwnL d m)

theorem infoC99 : (Try.prog.info? 99).map (fun i => (i.zero, i.size, i.bytes)) = some (some (.agg #[.int .i64 0, .int .i64 0, .int .i64 0, .int .i64 0, .slice none 0 0, .int .i64 0, .int .i64 0]), 7, 72) := by kernel_rfl
theorem infoC116 : (Try.prog.info? 116).map (fun i => (i.zero, i.size, i.bytes)) = some (some (.agg #[.int .i64 0, .int .i64 0, .slice none 0 0]), 3, 40) := by kernel_rfl

theorem LRep.ne_ty {B : Nat} {w : World} {d : Nat} {m : LM} {p : PL} (h : LRep B w d m p) {k : Nat} {cur : Array Value} {ty : TypeId} (hc : w.heap[k]? = some (.cells cur ty (0, 0))) : (ty ≠ 128 → k ≠ d) ∧ (ty ≠ 116 → oblock (slv m.vm) ≠ some k) ∧ (ty ≠ 99 → oblock (slv m.vq) ≠ some k) := by
  refine ⟨fun ht e => ?_, fun ht e => ?_, fun ht e => ?_⟩
  · subst e
    rw [h.cells] at hc
    simp at hc
    exact ht hc.2.symm
  · obtain ⟨_, cur', hh⟩ := h.rm.block e
    rw [hc] at hh
    simp at hh
    exact ht hh.2
  · obtain ⟨_, cur', hh⟩ := h.rq.block e
    rw [hc] at hh
    simp at hh
    exact ht hh.2
/-- Rows of a line that change, the rest kept. -/
theorem LRep.rows {B : Nat} {w w' : World} {d : Nat} {m : LM} {p : PL} (h : LRep B w d m p) (vm vq : Sl) (sm : List (Int × Int × Sl)) (sent free recv : Int) (wait : List Rq) (msgs : List (Int × List Value))
    (hc : w'.heap[d]? = some (.cells #[slv m.vl, .int .i64 sent, .int .i64 free, slv vm, slv vq, .int .i64 recv] 128 (0, 0)))
    (hk : ∀ k, k < w.heap.size → Still B w k → w'.heap[k]? = w.heap[k]?)
    (hrm : RowO w' B 116 3 (slv vm) sm.length (sm.flatMap encW)) (hrq : RowO w' B 99 7 (slv vq) wait.length (wait.flatMap encQ))
    (hm : All2 (fun s x => s.1 = x.1 ∧ Held B 5 w' s.2.2 x.2) sm msgs) : LRep B w' d { m with vm := vm, vq := vq, sm := sm } { p with sent := sent, free := free, recv := recv, wait := wait, msgs := msgs } :=
  ⟨h.low, hc, hrm, hrq, hm, h.hl.stays (.inr rfl) hk⟩
/-- What nobody writes is not a line's. -/
theorem LRep.still {B : Nat} {w : World} {d : Nat} {m : LM} {p : PL} (h : LRep B w d m p) {k : Nat} (hs : Still B w k) : ¬ OwnL d m k := fun ho => by
  obtain ⟨hb, cur, ty, hc, ht⟩ := h.tys ho
  rcases hs with hs | ⟨cur', ty', hc', ht'⟩
  · omega
  · rw [hc] at hc'
    simp at hc'
    obtain ⟨_, rfl⟩ := hc'
    rcases ht with rfl | rfl | rfl <;> simp at ht'
theorem LRep.hm_keep {B : Nat} {w w' : World} {d : Nat} {m : LM} {p : PL} (h : LRep B w d m p) (hk : ∀ k, k < w.heap.size → Still B w k → w'.heap[k]? = w.heap[k]?) : All2 (fun s x => s.1 = x.1 ∧ Held B 5 w' s.2.2 x.2) m.sm p.msgs :=
  h.hm.mono fun _ _ hh => ⟨hh.1, hh.2.stays (.inl rfl) hk⟩
theorem LRep.free_ {B : Nat} {w : World} {d : Nat} {m : LM} {p : PL} (h : LRep B w d m p) (x : Int) (n : Nat) : LRep B ((w.setCell ⟨d, 2, none⟩ (.int .i64 x)).drewN n) d m { p with free := x } := by
  refine h.set p.sent x p.recv ?_ (fun k hl hd _ => Below.heap_setCell w _ _ _ hd)
  have := set_same h.cells 2 (.int .i64 x)
  simpa using this
theorem LRep.sent_ {B : Nat} {w : World} {d : Nat} {m : LM} {p : PL} (h : LRep B w d m p) (x : Int) : LRep B (w.setCell ⟨d, 1, none⟩ (.int .i64 x)) d m { p with sent := x } := by
  refine h.set x p.free p.recv ?_ (fun k hl hd _ => Below.heap_setCell w _ _ _ hd)
  have := set_same h.cells 1 (.int .i64 x)
  simpa using this
theorem LRep.recv_ {B : Nat} {w : World} {d : Nat} {m : LM} {p : PL} (h : LRep B w d m p) (x : Int) (n : Nat) : LRep B ((w.setCell ⟨d, 5, none⟩ (.int .i64 x)).drewN n) d m { p with recv := x } := by
  refine h.set p.sent p.free x ?_ (fun k hl hd _ => Below.heap_setCell w _ _ _ hd)
  have := set_same h.cells 5 (.int .i64 x)
  simpa using this
def rowLen : Value → Nat
  | .slice _ n _ => n
  | _ => 0
/-- While messages meet receives. -/
structure Meeting (B : Nat) (w : World) (d : Nat) (m : LM) (p1 : PL) (os : List Ans) (p2 : PL) (os2 : List Ans) (v : Value) (wr : World) : Prop where
  add : Added B w d m w.heap.size p2 os2 v wr
  one : (meetF p2).1 = (meetF p1).1
  two : os2 ++ (meetF p2).2 = os ++ (meetF p1).2
  len : os2.length + p2.wait.length = os.length + p1.wait.length
  md : ∀ x ∈ p2.msgs, x.2.length ≤ 1000000
theorem meet_nil1 {p : PL} (h : p.wait = []) : meetF p = (p, []) := by
  unfold meetF
  rw [h]
  simp [matchF]
  rw [← h]
theorem meet_nil2 {p : PL} (h : p.msgs = []) : meetF p = (p, []) := by
  unfold meetF
  rw [h]
  cases hw : p.wait with
  | nil => simp [matchF]; rw [← hw, ← h]
  | cons x l => simp [matchF]; rw [← hw, ← h]
theorem RowO.head {B : Nat} {w : World} {α : Type} {f : α → List Value} {e sz : Nat} {v : Sl} {x : α} {l : List α} (hf : ∀ x, (f x).length = sz) (h : RowO w B e sz (slv v) (x :: l).length ((x :: l).flatMap f)) (_hsz : 0 < sz) :
    ∃ g off cap, v = (some ⟨g, off, none⟩, l.length + 1, cap) ∧ ∀ j, j < sz → w.cell? ⟨g, off + j, none⟩ = (f x)[j]? := by
  obtain ⟨a, n, c⟩ := v
  obtain ⟨A, c', e1⟩ := h.form
  injection e1 with e1 e2 e3
  subst e1 e2 e3
  obtain ⟨g, off, rfl, _, _, hc⟩ := RowO.cell h (by simp)
  refine ⟨g, off, c, rfl, fun j hj => ?_⟩
  have h1 : sz ≤ (l.length + 1) * sz := by rw [Nat.succ_mul]; omega
  rw [hc j (by simp only [List.length_cons]; omega), List.flatMap_cons, List.getElem?_append_left (by rw [hf]; exact hj)]
theorem Meeting.done {B : Nat} {w : World} {d : Nat} {m : LM} {p1 : PL} {os : List Ans} {p2 : PL} {os2 : List Ans} {v : Value} {wr : World} (h : Meeting B w d m p1 os p2 os2 v wr) (hm : meetF p2 = (p2, [])) : Added B w d m w.heap.size (meetF p1).1 (os ++ (meetF p1).2) v wr := by
  have h1 := h.one
  have h2 := h.two
  rw [hm] at h1 h2
  simp only [List.append_nil] at h1 h2
  rw [← h1, ← h2]
  exact h.add
theorem two_new1 (wr : World) (q0 : Rq) (s0 : Int × Int × Sl) : ∃ b6 b7, ptr wr.heap.size = ptr b6 ∧ ptr (wr.heap.size + 1) = ptr b7 ∧ Box ((wr.alloc (.cells #[.int .i64 q0.pk, .int .i64 q0.do_, .int .i64 q0.a_, .int .i64 q0.b_, .slice q0.dv.1 q0.dv.2.1 q0.dv.2.2, .int .i64 q0.at_, .int .i64 q0.ord] 99)).alloc (.cells #[.int .i64 s0.1, .int .i64 s0.2.1, .slice s0.2.2.1 s0.2.2.2.1 s0.2.2.2.2] 116)).drew b6 q0 ∧
    ((wr.alloc (.cells #[.int .i64 q0.pk, .int .i64 q0.do_, .int .i64 q0.a_, .int .i64 q0.b_, .slice q0.dv.1 q0.dv.2.1 q0.dv.2.2, .int .i64 q0.at_, .int .i64 q0.ord] 99)).alloc (.cells #[.int .i64 s0.1, .int .i64 s0.2.1, .slice s0.2.2.1 s0.2.2.2.1 s0.2.2.2.2] 116)).drew.heap[b7]? = some (.cells (encW s0).toArray 116 (0, 0)) ∧
    Below wr.heap.size wr ((wr.alloc (.cells #[.int .i64 q0.pk, .int .i64 q0.do_, .int .i64 q0.a_, .int .i64 q0.b_, .slice q0.dv.1 q0.dv.2.1 q0.dv.2.2, .int .i64 q0.at_, .int .i64 q0.ord] 99)).alloc (.cells #[.int .i64 s0.1, .int .i64 s0.2.1, .slice s0.2.2.1 s0.2.2.2.1 s0.2.2.2.2] 116)).drew ∧ wr.heap.size ≤ b6 ∧ wr.heap.size ≤ b7 := by
  refine ⟨wr.heap.size, wr.heap.size + 1, rfl, rfl, ?_, ?_, (((Below.refl _ _).alloc (Nat.le_refl _) _).alloc (by simp) _).drew, Nat.le_refl _, by omega⟩
  · exact alloc_old (alloc_new wr _) _
  · have := alloc_new (wr.alloc (.cells #[.int .i64 q0.pk, .int .i64 q0.do_, .int .i64 q0.a_, .int .i64 q0.b_, .slice q0.dv.1 q0.dv.2.1 q0.dv.2.2, .int .i64 q0.at_, .int .i64 q0.ord] 99)) (.cells #[.int .i64 s0.1, .int .i64 s0.2.1, .slice s0.2.2.1 s0.2.2.2.1 s0.2.2.2.2] 116)
    rw [World.size_alloc] at this
    exact this
theorem two_new2 (wr : World) (q0 : Rq) (s0 : Int × Int × Sl) : ∃ b6 b7, ptr (wr.heap.size + 1) = ptr b6 ∧ ptr wr.heap.size = ptr b7 ∧ Box ((wr.alloc (.cells #[.int .i64 s0.1, .int .i64 s0.2.1, .slice s0.2.2.1 s0.2.2.2.1 s0.2.2.2.2] 116)).alloc (.cells #[.int .i64 q0.pk, .int .i64 q0.do_, .int .i64 q0.a_, .int .i64 q0.b_, .slice q0.dv.1 q0.dv.2.1 q0.dv.2.2, .int .i64 q0.at_, .int .i64 q0.ord] 99)).drew b6 q0 ∧
    ((wr.alloc (.cells #[.int .i64 s0.1, .int .i64 s0.2.1, .slice s0.2.2.1 s0.2.2.2.1 s0.2.2.2.2] 116)).alloc (.cells #[.int .i64 q0.pk, .int .i64 q0.do_, .int .i64 q0.a_, .int .i64 q0.b_, .slice q0.dv.1 q0.dv.2.1 q0.dv.2.2, .int .i64 q0.at_, .int .i64 q0.ord] 99)).drew.heap[b7]? = some (.cells (encW s0).toArray 116 (0, 0)) ∧
    Below wr.heap.size wr ((wr.alloc (.cells #[.int .i64 s0.1, .int .i64 s0.2.1, .slice s0.2.2.1 s0.2.2.2.1 s0.2.2.2.2] 116)).alloc (.cells #[.int .i64 q0.pk, .int .i64 q0.do_, .int .i64 q0.a_, .int .i64 q0.b_, .slice q0.dv.1 q0.dv.2.1 q0.dv.2.2, .int .i64 q0.at_, .int .i64 q0.ord] 99)).drew ∧ wr.heap.size ≤ b6 ∧ wr.heap.size ≤ b7 := by
  refine ⟨wr.heap.size + 1, wr.heap.size, rfl, rfl, ?_, ?_, (((Below.refl _ _).alloc (Nat.le_refl _) _).alloc (by simp) _).drew, by omega, Nat.le_refl _⟩
  · have := alloc_new (wr.alloc (.cells #[.int .i64 s0.1, .int .i64 s0.2.1, .slice s0.2.2.1 s0.2.2.2.1 s0.2.2.2.2] 116)) (.cells #[.int .i64 q0.pk, .int .i64 q0.do_, .int .i64 q0.a_, .int .i64 q0.b_, .slice q0.dv.1 q0.dv.2.1 q0.dv.2.2, .int .i64 q0.at_, .int .i64 q0.ord] 99)
    rw [World.size_alloc] at this
    exact this
  · exact alloc_old (alloc_new wr _) _
/-- A row without its first element. -/
theorem RowO.tail {B : Nat} {w : World} {α : Type} {f : α → List Value} {e sz g off cap : Nat} {x : α} {l : List α} (hf : ∀ x, (f x).length = sz) (hsz : 0 < sz) (h : RowO w B e sz (slv (some ⟨g, off, none⟩, l.length + 1, cap)) (x :: l).length ((x :: l).flatMap f)) :
    RowO w B e sz (slv ((if cap = 1 then some ⟨g, off, none⟩ else some ⟨g, off + sz, none⟩), l.length, cap - 1)) l.length (l.flatMap f) ∧
    (oblock (slv ((if cap = 1 then some ⟨g, off, none⟩ else some ⟨g, off + sz, none⟩), l.length, cap - 1)) = oblock (slv (some ⟨g, off, none⟩, l.length + 1, cap)) ∨ oblock (slv ((if cap = 1 then some ⟨g, off, none⟩ else some ⟨g, off + sz, none⟩), l.length, cap - 1)) = none) := by
  have hc := RowO.cut (k := 1) h (by simp) hsz
  have e1 : ((x :: l).flatMap f).drop (1 * sz) = l.flatMap f := by
    rw [List.flatMap_cons, Nat.one_mul, List.drop_append_of_le_length (by rw [hf]; exact Nat.le_refl _), List.drop_eq_nil_of_le (by rw [hf]; exact Nat.le_refl _), List.nil_append]
  have e2 : (if cap = 1 then some (⟨g, off, none⟩ : Addr) else Option.map (fun x : Addr => x.add (1 * sz)) (some (⟨g, off, none⟩ : Addr))) = (if cap = 1 then some ⟨g, off, none⟩ else some ⟨g, off + sz, none⟩) := by
    simp only [Option.map_some, Addr.add_lit, Nat.one_mul]
  rw [e1, e2] at hc
  refine ⟨hc, ?_⟩
  by_cases hv1 : cap = 1
  · subst hv1
    exact .inr (by simp [oblock])
  · rw [if_neg hv1]
    obtain ⟨c, hcc⟩ : ∃ c, cap - 1 = c + 1 ∨ cap - 1 = 0 := ⟨cap - 2, by omega⟩
    rcases hcc with hcc | hcc
    · refine .inl ?_
      have e3 : oblock (slv (some ⟨g, off, none⟩, l.length + 1, cap)) = some g := by
        rw [show cap = (cap - 1) + 1 by omega]
        rfl
      rw [e3]
      show oblock (.slice (some ⟨g, off + sz, none⟩) l.length (cap - 1)) = some g
      rw [hcc]
      rfl
    · refine .inr ?_
      show oblock (.slice (some ⟨g, off + sz, none⟩) l.length (cap - 1)) = none
      rw [hcc]
      rfl
/-- The first message and the first receive go. -/
theorem LRep.cuts {B : Nat} {w : World} {d : Nat} {vl : Sl} {gm om cm gq oq cq : Nat} {s0 : Int × Int × Sl} {sm : List (Int × Int × Sl)} {p : PL} {q0 : Rq} {qs : List Rq} {x0 : Int × List Value} {ms : List (Int × List Value)} {aq am : Option Addr}
    (h : LRep B w d ⟨vl, (some ⟨gm, om, none⟩, sm.length + 1, cm), (some ⟨gq, oq, none⟩, qs.length + 1, cq), s0 :: sm⟩ p) (hw : p.wait = q0 :: qs) (hg : p.msgs = x0 :: ms)
    (haq : aq = (if cq = 1 then some (⟨gq, oq, none⟩ : Addr) else some ⟨gq, oq + 7, none⟩)) (ham : am = (if cm = 1 then some (⟨gm, om, none⟩ : Addr) else some ⟨gm, om + 3, none⟩)) :
    LRep B ((w.setCell ⟨d, 4, none⟩ (.slice aq qs.length (cq - 1))).setCell ⟨d, 3, none⟩ (.slice am sm.length (cm - 1))).drew d ⟨vl, (am, sm.length, cm - 1), (aq, qs.length, cq - 1), sm⟩ { p with wait := qs, msgs := ms } ∧
    (∀ k, OwnL d ⟨vl, (am, sm.length, cm - 1), (aq, qs.length, cq - 1), sm⟩ k → OwnL d ⟨vl, (some ⟨gm, om, none⟩, sm.length + 1, cm), (some ⟨gq, oq, none⟩, qs.length + 1, cq), s0 :: sm⟩ k) ∧
    Touch w ((w.setCell ⟨d, 4, none⟩ (.slice aq qs.length (cq - 1))).setCell ⟨d, 3, none⟩ (.slice am sm.length (cm - 1))).drew (· = d) := by
  have hrq := h.rq
  rw [hw] at hrq
  obtain ⟨tq, oq'⟩ := RowO.tail (f := encQ) (fun _ => rfl) (by decide) hrq
  obtain ⟨tm, om'⟩ := RowO.tail (f := encW) (fun _ => rfl) (by decide) h.rm
  rw [← haq] at tq oq'
  rw [← ham] at tm om'
  have ht : Touch w ((w.setCell ⟨d, 4, none⟩ (.slice aq qs.length (cq - 1))).setCell ⟨d, 3, none⟩ (.slice am sm.length (cm - 1))).drew (· = d) := ((Touch.setCell w ⟨d, 4, none⟩ _ (S := (· = d)) rfl).trans (Touch.setCell _ ⟨d, 3, none⟩ _ (S := (· = d)) rfl)).trans (Touch.drew _ _)
  have hss : ∀ k, k < w.heap.size → Still B w k → ((w.setCell ⟨d, 4, none⟩ (.slice aq qs.length (cq - 1))).setCell ⟨d, 3, none⟩ (.slice am sm.length (cm - 1))).drew.heap[k]? = w.heap[k]? := fun k hk hs => ht.block k hk fun e => h.still hs (.inl e)
  refine ⟨h.rows (am, sm.length, cm - 1) (aq, qs.length, cq - 1) sm p.sent p.free p.recv qs ms ?_ hss ?_ ?_ ?_, fun k hk => ?_, ht⟩
  · have := set_same (set_same h.cells 4 (.slice aq qs.length (cq - 1))) 3 (.slice am sm.length (cm - 1))
    show ((w.setCell ⟨d, 4, none⟩ (.slice aq qs.length (cq - 1))).setCell ⟨d, 3, none⟩ (.slice am sm.length (cm - 1))).heap[d]? = _
    simpa using this
  · refine tm.touch ht fun g hg e => ?_
    rcases om' with e' | e'
    · rw [e'] at hg
      exact (h.ne_ty h.cells).2.1 (by decide) (e ▸ hg)
    · rw [e'] at hg; cases hg
  · refine tq.touch ht fun g hg e => ?_
    rcases oq' with e' | e'
    · rw [e'] at hg
      exact (h.ne_ty h.cells).2.2 (by decide) (e ▸ hg)
    · rw [e'] at hg; cases hg
  · have hk := h.hm_keep hss
    rw [hg] at hk
    exact ⟨by have := hk.1; simpa using this, fun i x y hx hy => hk.2 (i + 1) x y (by simpa using hx) (by simpa using hy)⟩
  · rcases hk with hk | hk | hk
    · exact .inl hk
    · rcases om' with e' | e'
      · exact .inr (.inl (e'.symm.trans hk))
      · have hk : oblock (slv (am, sm.length, cm - 1)) = some k := hk
        rw [e'] at hk; cases hk
    · rcases oq' with e' | e'
      · exact .inr (.inr (e'.symm.trans hk))
      · have hk : oblock (slv (aq, qs.length, cq - 1)) = some k := hk
        rw [e'] at hk; cases hk
/-- One round. -/
theorem meet_cons {p : PL} {q0 : Rq} {qs : List Rq} {x0 : Int × List Value} {ms : List (Int × List Value)} (hw : p.wait = q0 :: qs) (hg : p.msgs = x0 :: ms) :
    (meetF p).1 = (meetF { p with wait := qs, msgs := ms, recv := max (max p.recv q0.at_) x0.1 }).1 ∧ (meetF p).2 = (q0, max (max p.recv q0.at_) x0.1, (x0.2.length : Int), x0.2) :: (meetF { p with wait := qs, msgs := ms, recv := max (max p.recv q0.at_) x0.1 }).2 := by
  unfold meetF
  rw [hw, hg]
  exact ⟨rfl, rfl⟩
/-- A receive waits. -/
theorem LRep.waits {B : Nat} {w w7 : World} {d : Nat} {m : LM} {p : PL} {q : Rq} {A' : Option Addr} {c' : Nat} (h : LRep B w d m p)
    (hrow : RowO w7 B 99 7 (.slice A' (p.wait.length + 1) c') (p.wait.length + 1) (p.wait.flatMap encQ ++ encQ q)) (hbl : ∀ k, k < w.heap.size → oblock (slv m.vq) ≠ some k → w7.heap[k]? = w.heap[k]?) :
    LRep B (w7.setCell ⟨d, 4, none⟩ (.slice A' (p.wait.length + 1) c')) d { m with vq := (A', p.wait.length + 1, c') } { p with wait := p.wait ++ [q] } := by
  have hd7 := (hbl d (blt h.cells) ((h.ne_ty h.cells).2.2 (by decide))).trans h.cells
  have hst : ∀ k, k < w.heap.size → k ≠ d → oblock (slv m.vq) ≠ some k → (w7.setCell ⟨d, 4, none⟩ (.slice A' (p.wait.length + 1) c')).heap[k]? = w.heap[k]? := fun k hk hne ho => (Below.heap_setCell w7 _ _ _ hne).trans (hbl k hk ho)
  have hss : ∀ k, k < w.heap.size → Still B w k → (w7.setCell ⟨d, 4, none⟩ (.slice A' (p.wait.length + 1) c')).heap[k]? = w.heap[k]? := fun k hk hs => hst k hk (fun e => h.still hs (.inl e)) (fun e => h.still hs (.inr (.inr e)))
  refine h.rows m.vm (A', p.wait.length + 1, c') m.sm p.sent p.free p.recv (p.wait ++ [q]) p.msgs ?_ hss ?_ ?_ (h.hm_keep hss)
  · have := set_same hd7 4 (.slice A' (p.wait.length + 1) c')
    simpa using this
  · refine h.rm.keep fun k hk hl => ?_
    obtain ⟨_, cur, hc⟩ := h.rm.block hk
    exact hst k hl ((h.ne_ty hc).1 (by decide)) ((h.ne_ty hc).2.2 (by decide))
  · have e : (p.wait ++ [q]).length = p.wait.length + 1 := by simp
    have e2 : (p.wait ++ [q]).flatMap encQ = p.wait.flatMap encQ ++ encQ q := by simp
    rw [e, e2]
    refine hrow.keep fun k hk hl => Below.heap_setCell w7 _ _ _ (fun e3 => ?_)
    obtain ⟨_, cur, hc⟩ := hrow.block hk
    have e3 : k = d := e3
    subst e3
    rw [hd7] at hc
    simp at hc
/-- A message comes. -/
theorem LRep.sends {B : Nat} {w w7 : World} {d : Nat} {m : LM} {p : PL} {G : Int} {dv : Sl} {data : List Value} {A' : Option Addr} {c' : Nat} (h : LRep B w d m p)
    (hrow : RowO w7 B 116 3 (.slice A' (m.sm.length + 1) c') (m.sm.length + 1) (m.sm.flatMap encW ++ encW (G, 0, dv))) (hbl : ∀ k, k < w.heap.size → oblock (slv m.vm) ≠ some k → w7.heap[k]? = w.heap[k]?) (hdv : Held B 5 w7 dv data) :
    LRep B (w7.setCell ⟨d, 3, none⟩ (.slice A' (m.sm.length + 1) c')) d { m with vm := (A', m.sm.length + 1, c'), sm := m.sm ++ [(G, 0, dv)] } { p with msgs := p.msgs ++ [(G, data)] } := by
  have hd7 := (hbl d (blt h.cells) ((h.ne_ty h.cells).2.1 (by decide))).trans h.cells
  have hst : ∀ k, k < w.heap.size → k ≠ d → oblock (slv m.vm) ≠ some k → (w7.setCell ⟨d, 3, none⟩ (.slice A' (m.sm.length + 1) c')).heap[k]? = w.heap[k]? := fun k hk hne ho => (Below.heap_setCell w7 _ _ _ hne).trans (hbl k hk ho)
  have hss : ∀ k, k < w.heap.size → Still B w k → (w7.setCell ⟨d, 3, none⟩ (.slice A' (m.sm.length + 1) c')).heap[k]? = w.heap[k]? := fun k hk hs => hst k hk (fun e => h.still hs (.inl e)) (fun e => h.still hs (.inr (.inl e)))
  refine h.rows (A', m.sm.length + 1, c') m.vq (m.sm ++ [(G, 0, dv)]) p.sent p.free p.recv p.wait (p.msgs ++ [(G, data)]) ?_ hss ?_ ?_ ((h.hm_keep hss).snoc ⟨rfl, ?_⟩)
  · have := set_same hd7 3 (.slice A' (m.sm.length + 1) c')
    simpa using this
  · have e : (m.sm ++ [((G, 0, dv) : Int × Int × Sl)]).length = m.sm.length + 1 := by simp
    have e2 : (m.sm ++ [((G, 0, dv) : Int × Int × Sl)]).flatMap encW = m.sm.flatMap encW ++ encW (G, 0, dv) := by simp
    rw [e, e2]
    refine hrow.keep fun k hk hl => Below.heap_setCell w7 _ _ _ (fun e3 => ?_)
    obtain ⟨_, cur, hc⟩ := hrow.block hk
    have e3 : k = d := e3
    subst e3
    rw [hd7] at hc
    simp at hc
  · refine h.rq.keep fun k hk hl => ?_
    obtain ⟨_, cur, hc⟩ := h.rq.block hk
    exact hst k hl ((h.ne_ty hc).1 (by decide)) ((h.ne_ty hc).2.1 (by decide))
  · refine hdv.keep fun k hk ho => Below.heap_setCell w7 _ _ _ (fun e => ?_)
    have e : k = d := e
    subst e
    rcases ho with ho | ⟨cur, ho⟩
    · have := h.low
      omega
    · rw [hd7] at ho
      simp at ho
set_option maxRecDepth 100000 in
theorem build99 (w : World) (a b c d e f g : Value) : (Instr.buildSlice 126 1 #[(0, .agg #[a, b, c, d, e, f, g])]).run Try.prog w = .ok (.slice (some ⟨w.heap.size, 0, none⟩) 1 1) (w.alloc (.cells #[a, b, c, d, e, f, g] 99)) := by
  go_simp
set_option maxRecDepth 100000 in
theorem build116 (w : World) (a b c : Value) : (Instr.buildSlice 104 1 #[(0, .agg #[a, b, c])]).run Try.prog w = .ok (.slice (some ⟨w.heap.size, 0, none⟩) 1 1) (w.alloc (.cells #[a, b, c] 116)) := by
  go_simp
theorem encQ_one (q : Rq) : ∀ u ∈ encQ q, u.oneCell' = true := fun u hu => by
  simp [encQ] at hu
  rcases hu with rfl | rfl | rfl | rfl | rfl | rfl | rfl <;> rfl
set_option maxHeartbeats 4000000 in
set_option maxRecDepth 100000 in
theorem line_send (w : World) (B d : Nat) (m : LM) (p : PL) (q : Rq) (data : List Value) (h : LRep B w d m p) (hf : LFit p) (hdata : Held B 5 w q.dv data) (hn : q.do_ = 2 → data.length ≤ 64) (hq : q.do_ = 1 ∨ q.do_ = 2) (ha : 0 ≤ q.at_ ∧ q.at_ ≤ 1000000000) :
    Calls Try.prog 100 #[ptr d, .agg (encQ q).toArray] w fun e w' => ∃ v, e = .returned v ∧ Added B w d m w.heap.size (lineF p q data).1 (lineF p q data).2 v w' := by
  obtain ⟨W, hW⟩ : ∃ W, W = w.alloc (.cells (encQ q).toArray 99) := ⟨_, rfl⟩
  have hbw : Below w.heap.size w W := by rw [hW]; exact (Below.refl _ _).alloc (Nat.le_refl _) _
  have gb : W.heap[w.heap.size]? = some (.cells (encQ q).toArray 99 (0, 0)) := by rw [hW]; exact alloc_new _ _
  have hr : LRep B W d m p := h.keep fun k hl _ => hbw.block k hl
  have hdl : d < w.heap.size := blt h.cells
  have hdat : Held B 5 W q.dv data := hdata.below hbw
  generalize hQ : (Value.agg (encQ q).toArray) = Q
  go_enter Try.func100, Try.ntmps100
  subst hQ
  go_upto_block 0 with (fail)
  rw [← hW]
  have HB := Lib.hid hbw
  have GB := Lib.hid gb
  have HR := Lib.hid hr
  have H := Lib.hid h
  have HD := Lib.hid hdat
  have HF := Lib.hid hf
  have HN := Lib.hid hn
  have HA := Lib.hid ha
  have HDL := Lib.hid hdl
  clear hbw gb hr h hdat hf hn ha hdl hW hdata
  go_cut [5] from 8 (fun s5 wx => Added B w d m w.heap.size (addF p q data).1 (addF p q data).2 s5 wx)
  case first =>
    rcases hq with hq | hq
    · as_aux_lemma =>
        have e1 : addF p q data = ({ p with wait := p.wait ++ [q] }, []) := by unfold addF; rw [if_pos hq]
        have E1 := Lib.hid e1
        clear e1
        obtain ⟨z0, z1, z2, z3, z4, z5, z6⟩ := (show Box W w.heap.size q from GB.out).all
        obtain ⟨c0, c1, c2, c3, c4, c5⟩ := HR.out.all
        rw [hq] at z1
        have HQ := Lib.hid hq
        clear hq
        go_upto_region 8 with (fail)
        obtain ⟨C, hCd⟩ : ∃ C : World → Prop, ∀ z, C z ↔ (z.cell? ⟨w.heap.size, 0, none⟩ = some (.int .i64 q.pk) ∧ z.cell? ⟨w.heap.size, 1, none⟩ = some (.int .i64 1) ∧ z.cell? ⟨w.heap.size, 2, none⟩ = some (.int .i64 q.a_) ∧ z.cell? ⟨w.heap.size, 3, none⟩ = some (.int .i64 q.b_) ∧ z.cell? ⟨w.heap.size, 4, none⟩ = some (.slice q.dv.1 q.dv.2.1 q.dv.2.2) ∧ z.cell? ⟨w.heap.size, 5, none⟩ = some (.int .i64 q.at_) ∧ z.cell? ⟨w.heap.size, 6, none⟩ = some (.int .i64 q.ord) ∧ z.cell? ⟨d, 4, none⟩ = some (.slice m.vq.1 m.vq.2.1 m.vq.2.2)) := ⟨_, fun _ => Iff.rfl⟩
        have s0 := fun s : {z : World // C z} => ((hCd s.1).1 s.2).1
        have s1 := fun s : {z : World // C z} => ((hCd s.1).1 s.2).2.1
        have s2 := fun s : {z : World // C z} => ((hCd s.1).1 s.2).2.2.1
        have s3 := fun s : {z : World // C z} => ((hCd s.1).1 s.2).2.2.2.1
        have s4 := fun s : {z : World // C z} => ((hCd s.1).1 s.2).2.2.2.2.1
        have s5 := fun s : {z : World // C z} => ((hCd s.1).1 s.2).2.2.2.2.2.1
        have s6 := fun s : {z : World // C z} => ((hCd s.1).1 s.2).2.2.2.2.2.2.1
        have s7 := fun s : {z : World // C z} => ((hCd s.1).1 s.2).2.2.2.2.2.2.2
        have hC0 := (hCd W.drew).2 ⟨z0, z1, z2, z3, z4, z5, z6, c4⟩
        haveI : Nonempty {z : World // C z} := ⟨⟨W.drew, hC0⟩⟩
        refine Mix.wp_region_mix C [6, 7, 10] (by kernel_rfl) (by kernel_rfl) hC0 ?_
        have HCD := Lib.hid hCd
        clear hCd hC0
        repeat (refine Mix.mix_still rfl (fun K hK => ?_); go_simp; refine hK _ ?_; clear hK K)
        refine Mix.mix_eff rfl ?_
        refine wpList_build1 _ rfl (.tmp 80) 126 99 rfl #[.int .i64 q.pk, .int .i64 1, .int .i64 q.a_, .int .i64 q.b_, .slice q.dv.1 q.dv.2.1 q.dv.2.2, .int .i64 q.at_, .int .i64 q.ord] rfl (build99 _ _ _ _ _ _ _ _) ?_
        obtain ⟨W6, hW6⟩ : ∃ W6, W6 = W.drew.alloc (.cells #[.int .i64 q.pk, .int .i64 1, .int .i64 q.a_, .int .i64 q.b_, .slice q.dv.1 q.dv.2.1 q.dv.2.2, .int .i64 q.at_, .int .i64 q.ord] 99) := ⟨_, rfl⟩
        have hn6 : W6.heap[W.heap.size]? = some (.cells (encQ q).toArray 99 (0, 0)) := by rw [hW6]; refine (alloc_new W.drew _).trans ?_; simp [encQ, HQ.out]
        have hb6 : Below W.heap.size W W6 := by rw [hW6]; exact ((Below.refl W.heap.size W).drew).alloc (Nat.le_refl _) _
        have hk6 : ∀ {a : Addr} {v : Value}, W.cell? a = some v → W6.cell? a = some v := fun hx => (hb6.cell (lt_of_cell hx)).trans hx
        rw [← hW6]
        have hC6 := (HCD.out W6).2 ⟨hk6 z0, hk6 z1, hk6 z2, hk6 z3, hk6 z4, hk6 z5, hk6 z6, hk6 c4⟩
        refine wpList_nil ⟨rfl, .inr hC6, ?_⟩
        repeat (refine Mix.mix_still rfl (fun K hK => ?_); go_simp; refine hK _ ?_; clear hK K)
        refine Mix.mix_eff rfl ?_
        obtain ⟨i0, hi, hz0, hz1, hz2⟩ := info_parts infoC99
        have hr6 := HR.out.rq.keep (w' := W6) fun k _ hl => hb6.block k hl
        have hvq : m.vq.2.1 = p.wait.length := HR.out.vqn
        have hnw := HF.out.nw
        have hlo : B ≤ W6.heap.size := by have := HR.out.low; have := blt HR.out.cells; have := hb6.size; omega
        refine wpList_append_off _ rfl _ _ 126 rfl B 99 i0 (.agg #[.int .i64 0, .int .i64 0, .int .i64 0, .int .i64 0, .slice none 0 0, .int .i64 0, .int .i64 0]) 7 72 Try.underlying126 hi hz0 hz1 hz2 rfl (by decide) (slv m.vq) p.wait.length (p.wait.flatMap encQ) rfl hr6 W6.heap.size (some ⟨W.heap.size, 0, none⟩) 1 1 (encQ q) rfl ?rd (encQ_one q) (by unfold maxLen; omega) (by omega) hlo ?_
        case rd => exact ⟨rfl, fun _ => ⟨_, rfl, blt hn6, fun i u hu => by rw [Addr.add_lit, Nat.zero_add, cell_of hn6]; simpa using hu⟩⟩
        intro v' w7 hrow7 hgrow7 hloc7
        obtain ⟨A', c', rfl⟩ := hrow7.form
        have hbl7 : ∀ k, k < W.heap.size → oblock (slv m.vq) ≠ some k → w7.heap[k]? = W.heap[k]? := fun k hk hne => (hgrow7.block k (Nat.lt_of_lt_of_le hk hb6.size) (fun e => hne e.symm)).trans (hb6.block k hk)
        have hnq : ∀ {k : Nat} {cur : Array Value} {ty : TypeId}, W.heap[k]? = some (.cells cur ty (0, 0)) → ty ≠ 99 → oblock (slv m.vq) ≠ some k := fun hc ht e => by
          obtain ⟨_, cur', hh⟩ := HR.out.rq.block e
          rw [hc] at hh
          simp at hh
          exact ht hh.2
        have hd7 := (hbl7 d (blt HR.out.cells) (hnq HR.out.cells (by decide))).trans HR.out.cells
        have hqb : oblock (slv m.vq) ≠ some w.heap.size := fun e => by
          obtain ⟨_, cur', hh⟩ := H.out.rq.block e
          exact Nat.lt_irrefl _ (blt hh)
        have gb7 := (hbl7 _ (blt GB.out) hqb).trans GB.out
        have q4 : w7.cell? ⟨d, 4, none⟩ = some (.slice m.vq.1 m.vq.2.1 m.vq.2.2) := (cell_of hd7 4).trans rfl
        have qf : w7.frozen? ⟨d, 4, none⟩ = false := free_of hd7 4
        obtain ⟨y0, y1, y2, y3, y4, y5, y6⟩ := (show Box w7 w.heap.size q from gb7).all
        rw [HQ.out] at y1
        refine wpList_nil ⟨rfl, .inr ((HCD.out _).2 ⟨y0, y1, y2, y3, y4, y5, y6, q4⟩), ?_⟩
        have HROW := Lib.hid hrow7
        have HGROW := Lib.hid hgrow7
        have HLOC := Lib.hid hloc7
        have HBL7 := Lib.hid hbl7
        have HD7 := Lib.hid hd7
        have HB6 := Lib.hid hb6
        clear hrow7 hgrow7 hloc7 hbl7 hd7 hb6 hr6 hn6 hW6 hC6 hk6 hnq hqb gb7 hlo hvq hnw y0 y1 y2 y3 y4 y5 y6 z0 z1 z2 z3 z4 z5 z6 c0 c1 c2 c3 c4 c5
        repeat (refine Mix.mix_still rfl (fun K hK => ?_); go_simp; refine hK _ ?_; clear hK K)
        refine Mix.mix_eff rfl ?_
        go_wp2_with fail
        refine Mix.mix_nil ?_
        go_wp2_with fail
        go_meet
        case rel =>
          rw [E1.out]
          have hrep := HR.out.waits HROW.out HBL7.out
          have htq : Touch W w7 (fun k => oblock (slv m.vq) = some k) := (Touch.of_below HB6.out).andThen (Touch.grown HGROW.out) fun k _ e => e.symm
          have hts : Touch W (w7.setCell ⟨d, 4, none⟩ (.slice A' (p.wait.length + 1) c')) (OwnL d m) := (htq.mono fun k _ e => .inr (.inr e)).trans (Touch.setCell w7 _ _ (.inl rfl))
          refine ⟨⟨_, [], hrep, ⟨owns_none, All2.nil_⟩, fun k hk => ?_⟩, (Touch.of_below HB.out).trans hts⟩
          rcases hk with hk | hk | hk
          · exact .inl (.inl hk)
          · exact .inl (.inr (.inl hk))
          · rcases HLOC.out with e | e
            · exact .inl (.inr (.inr (e ▸ hk)))
            · refine .inr ?_
              have hk : oblock (.slice A' (p.wait.length + 1) c') = some k := hk
              rw [e] at hk
              injection hk with hk
              have := HB.out.size
              have := HB6.out.size
              omega
    · as_aux_lemma =>
        have HN := Lib.hid (HN.out hq)
        have e1 : addF p q data = ({ p with free := goneF p q data.length, sent := p.sent + 1, msgs := if p.sent + 1 ∈ p.lost then p.msgs else p.msgs ++ [(goneF p q data.length, data)] }, [(q, goneF p q data.length, 0, [])]) := by unfold addF; rw [if_neg (by rw [hq]; decide)]
        have E1 := Lib.hid e1
        clear e1
        have hqn : q.dv.2.1 = data.length := HD.out.1.symm
        have hn64 : q.dv.2.1 ≤ 64 := by rw [hqn]; exact HN.out
        obtain ⟨z0, z1, z2, z3, z4, z5, z6⟩ := (show Box W w.heap.size q from GB.out).all
        obtain ⟨c0, c1, c2, c3, c4, c5⟩ := HR.out.all
        rw [hq] at z1
        have HQ := Lib.hid hq
        have hd1 : decide (64 < (q.dv.2.1 : Int)) = false := by simp; omega
        clear hq
        go_upto_region 2 with (fail)
        have HQN := Lib.hid hqn
        have HN64 := Lib.hid hn64
        clear hqn hn64
        obtain ⟨C, hCd⟩ : ∃ C : World → Prop, ∀ z, C z ↔ (z.cell? ⟨w.heap.size, 4, none⟩ = some (.slice q.dv.1 q.dv.2.1 q.dv.2.2) ∧ z.cell? ⟨w.heap.size, 5, none⟩ = some (.int .i64 q.at_) ∧ z.cell? ⟨d, 2, none⟩ = some (.int .i64 p.free)) := ⟨_, fun _ => Iff.rfl⟩
        have s0 := fun s : {z : World // C z} => ((hCd s.1).1 s.2).1
        have s1 := fun s : {z : World // C z} => ((hCd s.1).1 s.2).2.1
        have s2 := fun s : {z : World // C z} => ((hCd s.1).1 s.2).2.2
        have hC0 := (hCd W.drew).2 ⟨z4, z5, c2⟩
        have fz := HR.out.frees 2
        haveI : Nonempty {z : World // C z} := ⟨⟨W.drew, hC0⟩⟩
        refine Mix.wp_region_mix C [18] (by kernel_rfl) (by kernel_rfl) hC0 ?_
        have HCD := Lib.hid hCd
        clear hCd hC0
        repeat (refine Mix.mix_still rfl (fun K hK => ?_); go_simp; refine hK _ ?_; clear hK K)
        refine Mix.mix_eff rfl ?_
        go_wp2_with fail
        refine Mix.mix_nil ?_
        go_upto_region 3 with (fail)
        obtain ⟨G, hG⟩ : ∃ G, G = goneF p q data.length := ⟨_, rfl⟩
        have hGr : 0 ≤ G ∧ G ≤ 2000000100 := by
          have := HF.out.f0; have := HF.out.f1; have := HA.out; have := HN.out
          rw [hG]; unfold goneF; omega
        have hw : wrap64 (max q.at_ p.free + max 1 (wrap64 ((wrap64 ((q.dv.2.1 : Int) + 7)).tdiv 8))) = G := by
          have h1 := HN64.out
          have h2 : wrap64 ((q.dv.2.1 : Int) + 7) = (q.dv.2.1 : Int) + 7 := by unfold wrap64; omega
          have h3 : ((q.dv.2.1 : Int) + 7).tdiv 8 = ((q.dv.2.1 : Int) + 7) / 8 := Int.tdiv_eq_ediv_of_nonneg (by omega)
          have h4 : wrap64 (((q.dv.2.1 : Int) + 7) / 8) = ((q.dv.2.1 : Int) + 7) / 8 := by unfold wrap64; omega
          rw [h2, h3, h4]
          have h5 : max q.at_ p.free + max 1 (((q.dv.2.1 : Int) + 7) / 8) = G := by rw [hG, goneF, ← HQN.out]
          rw [h5]
          unfold wrap64; omega
        rw [hw]
        obtain ⟨W1, hW1⟩ : ∃ W1, W1 = (W.setCell ⟨d, 2, none⟩ (.int .i64 G)).drew := ⟨_, rfl⟩
        rw [← hW1]
        have hr1 : LRep B W1 d m { p with free := G } := by rw [hW1]; exact HR.out.free_ G 1
        have gb1 : W1.heap[w.heap.size]? = some (.cells (encQ q).toArray 99 (0, 0)) := by rw [hW1]; exact (Below.heap_setCell W _ _ _ (by have := HDL.out; show w.heap.size ≠ d; omega)).trans GB.out
        have ht1 : Touch W W1 (· = d) := by rw [hW1]; exact (Touch.setCell W ⟨d, 2, none⟩ _ (S := (· = d)) rfl).trans (Touch.drew _ _)
        clear z0 z1 z2 z3 z4 z5 z6 c0 c1 c2 c3 c4 c5 s0 s1 s2 fz hw hd1
        obtain ⟨c0, c1, c2, c3, c4, c5⟩ := hr1.all
        have fz := hr1.frees 1
        have HG := Lib.hid hG
        have HGR := Lib.hid hGr
        have HR1 := Lib.hid hr1
        have GB1 := Lib.hid gb1
        have HT1 := Lib.hid ht1
        clear hG hGr hr1 gb1 ht1 hW1
        go_upto_region 4 with (fail)
        have hw : wrap64 (p.sent + 1) = p.sent + 1 := by
          have := HF.out.s0; have := HF.out.s1
          unfold wrap64; omega
        rw [hw]
        obtain ⟨W2, hW2⟩ : ∃ W2, W2 = W1.setCell ⟨d, 1, none⟩ (.int .i64 (p.sent + 1)) := ⟨_, rfl⟩
        rw [← hW2]
        have hr2 : LRep B W2 d m { p with sent := p.sent + 1, free := G } := by rw [hW2]; exact HR1.out.sent_ (p.sent + 1)
        have gb2 : W2.heap[w.heap.size]? = some (.cells (encQ q).toArray 99 (0, 0)) := by rw [hW2]; exact (Below.heap_setCell W1 _ _ _ (by have := HDL.out; show w.heap.size ≠ d; omega)).trans GB1.out
        have ht2 : Touch W W2 (· = d) := by rw [hW2]; exact HT1.out.trans (Touch.setCell W1 ⟨d, 1, none⟩ _ (S := (· = d)) rfl)
        clear c0 c1 c2 c3 c4 c5 fz hw
        obtain ⟨z0, z1, z2, z3, z4, z5, z6⟩ := (show Box W2 w.heap.size q from gb2).all
        obtain ⟨c0, c1, c2, c3, c4, c5⟩ := hr2.all
        rw [HQ.out] at z1
        have hb2 : B ≤ W2.heap.size := by have := hr2.low; have := blt hr2.cells; omega
        have C91 := Lib.hid (answer_any W2.drew B q G 0 (none, 0, 0) [] Held.nil_ hb2 (by simp))
        have hbox : (encQ q).toArray = #[.int .i64 q.pk, .int .i64 2, .int .i64 q.a_, .int .i64 q.b_, .slice q.dv.1 q.dv.2.1 q.dv.2.2, .int .i64 q.at_, .int .i64 q.ord] := by
          unfold encQ
          rw [HQ.out]
        rw [hbox] at C91
        unfold encR at C91
        have HBOX := Lib.hid hbox
        have HR2 := Lib.hid hr2
        have GB2 := Lib.hid gb2
        have HT2 := Lib.hid ht2
        have HB2 := Lib.hid hb2
        clear hbox hr2 gb2 ht2 hW2 hb2
        obtain ⟨C', hCd⟩ : ∃ C : World → Prop, ∀ z, C z ↔ (z.cell? ⟨w.heap.size, 0, none⟩ = some (.int .i64 q.pk) ∧ z.cell? ⟨w.heap.size, 1, none⟩ = some (.int .i64 2) ∧ z.cell? ⟨w.heap.size, 2, none⟩ = some (.int .i64 q.a_) ∧ z.cell? ⟨w.heap.size, 3, none⟩ = some (.int .i64 q.b_) ∧ z.cell? ⟨w.heap.size, 4, none⟩ = some (.slice q.dv.1 q.dv.2.1 q.dv.2.2) ∧ z.cell? ⟨w.heap.size, 5, none⟩ = some (.int .i64 q.at_) ∧ z.cell? ⟨w.heap.size, 6, none⟩ = some (.int .i64 q.ord) ∧ z.cell? ⟨d, 2, none⟩ = some (.int .i64 G)) := ⟨_, fun _ => Iff.rfl⟩
        have s0 := fun s : {z : World // C' z} => ((hCd s.1).1 s.2).1
        have s1 := fun s : {z : World // C' z} => ((hCd s.1).1 s.2).2.1
        have s2 := fun s : {z : World // C' z} => ((hCd s.1).1 s.2).2.2.1
        have s3 := fun s : {z : World // C' z} => ((hCd s.1).1 s.2).2.2.2.1
        have s4 := fun s : {z : World // C' z} => ((hCd s.1).1 s.2).2.2.2.2.1
        have s5 := fun s : {z : World // C' z} => ((hCd s.1).1 s.2).2.2.2.2.2.1
        have s6 := fun s : {z : World // C' z} => ((hCd s.1).1 s.2).2.2.2.2.2.2.1
        have s7 := fun s : {z : World // C' z} => ((hCd s.1).1 s.2).2.2.2.2.2.2.2
        have hC0 := (hCd W2.drew).2 ⟨z0, z1, z2, z3, z4, z5, z6, c2⟩
        haveI : Nonempty {z : World // C' z} := ⟨⟨W2.drew, hC0⟩⟩
        refine Mix.wp_region_mix C' [6, 7, 8] (by kernel_rfl) (by kernel_rfl) hC0 ?_
        have HCD2 := Lib.hid hCd
        clear hCd
        repeat (refine Mix.mix_still rfl (fun K hK => ?_); go_simp; refine hK _ ?_; clear hK K)
        refine Mix.mix_eff rfl ?_
        go_wp2_with (go_at_call 91; (with_reducible refine (C91.out).mono ?_); rintro e w5 ⟨dv, rfl, hb5, hd5⟩; have HB5 := Lib.hid hb5; have HD5 := Lib.hid hd5; clear hb5 hd5)
        have hk5 : ∀ {a : Addr} {v : Value}, W2.drew.cell? a = some v → w5.cell? a = some v := fun h => (HB5.out.cell (lt_of_cell h)).trans h
        refine ⟨(HCD2.out _).2 ⟨hk5 z0, hk5 z1, hk5 z2, hk5 z3, hk5 z4, hk5 z5, hk5 z6, hk5 c2⟩, ?_⟩
        refine Mix.mix_eff rfl ?_
        refine wpList_build1 _ rfl (.tmp 39) 78 95 rfl #[.int .i64 q.pk, .int .i64 G, .int .i64 0, .slice dv.1 dv.2.1 dv.2.2, .int .i64 0, .int .i64 q.ord] rfl (build95 _ _ _ _ _ _ _) ?_
        obtain ⟨W6, hW6⟩ : ∃ W6, W6 = w5.alloc (.cells #[.int .i64 q.pk, .int .i64 G, .int .i64 0, .slice dv.1 dv.2.1 dv.2.2, .int .i64 0, .int .i64 q.ord] 95) := ⟨_, rfl⟩
        have hn6 : W6.heap[w5.heap.size]? = some (.cells (encR ⟨q.pk, G, 0, dv, 0, q.ord⟩).toArray 95 (0, 0)) := by rw [hW6]; exact alloc_new w5 _
        have hb6 : Below w5.heap.size w5 W6 := by rw [hW6]; exact (Below.refl _ _).alloc (Nat.le_refl _) _
        have hk6 : ∀ {a : Addr} {v : Value}, W2.drew.cell? a = some v → W6.cell? a = some v := fun hx => (hb6.cell (lt_of_cell (hk5 hx))).trans (hk5 hx)
        rw [← hW6]
        refine wpList_nil ⟨rfl, .inr ((HCD2.out W6).2 ⟨hk6 z0, hk6 z1, hk6 z2, hk6 z3, hk6 z4, hk6 z5, hk6 z6, hk6 c2⟩), ?_⟩
        refine Mix.mix_eff rfl ?_
        obtain ⟨i0, hi, hz0, hz1, hz2⟩ := info_parts infoA95
        have hlo : w.heap.size ≤ W6.heap.size := by
          have h1 := HB.out.size; have h2 := HT2.out.size; have h3 : W2.heap.size ≤ w5.heap.size := HB5.out.size; have h4 := hb6.size
          omega
        refine wpList_append_any _ rfl _ _ 78 rfl w.heap.size 95 i0 (.agg #[.int .i64 0, .int .i64 0, .int .i64 0, .slice none 0 0, .int .i64 0, .int .i64 0]) 6 64 Try.underlying78 hi hz0 hz1 hz2 rfl (by decide) (.slice none 0 0) 0 [] rfl owns_none W6.heap.size (some ⟨w5.heap.size, 0, none⟩) 1 1 (encR ⟨q.pk, G, 0, dv, 0, q.ord⟩) rfl ?rd (encR_one _) (by unfold maxLen; omega) (by omega) hlo ?_
        case rd => exact ⟨rfl, fun _ => ⟨_, rfl, blt hn6, fun i u hu => by rw [Addr.add_lit, Nat.zero_add, cell_of hn6]; simpa using hu⟩⟩
        intro v' w7 hrow7 hgrow7 hloc7
        have hb7 : Below W2.heap.size W2 w7 := by
          have h5 : Below W2.heap.size W2 w5 := ⟨HB5.out.os, HB5.out.tape, HB5.out.output, HB5.out.size, HB5.out.block⟩
          exact (h5.trans (hb6.mono h5.size)).grown hgrow7 (Nat.le_trans h5.size hb6.size) (fun k hk => by simp [Value.ownBlock] at hk)
        have hk7 : ∀ {a : Addr} {v : Value}, W2.drew.cell? a = some v → w7.cell? a = some v := fun hx => (hb7.cell (lt_of_cell hx)).trans hx
        refine wpList_nil ⟨rfl, .inr ((HCD2.out w7).2 ⟨hk7 z0, hk7 z1, hk7 z2, hk7 z3, hk7 z4, hk7 z5, hk7 z6, hk7 c2⟩), ?_⟩
        have hd7 : Held B 5 w7 dv [] := HD5.out.below (hb6.trans ((Touch.grown hgrow7).below hb6.size (fun k hk => by simp [Value.ownBlock] at hk)))
        have hr7 : LRep B w7 d m { p with sent := p.sent + 1, free := G } := HR2.out.keep fun k hl _ => hb7.block k hl
        have gb7 := (hb7.block _ (blt GB2.out)).trans GB2.out
        have HROW := Lib.hid hrow7
        have HB7 := Lib.hid hb7
        have HD7 := Lib.hid hd7
        have HR7 := Lib.hid hr7
        have HGB7 := Lib.hid gb7
        clear hrow7 hgrow7 hloc7 hb7 hd7 hr7 gb7 hb6 hn6 hW6 hk5 hk6 hk7 hlo hC0 z0 z1 z2 z3 z4 z5 z6 c0 c1 c2 c3 c4 c5 s0 s1 s2 s3 s4 s5 s6 s7 hi hz0 hz1 hz2
        repeat (refine Mix.mix_still rfl (fun K hK => ?_); go_simp; refine hK _ ?_; clear hK K)
        refine Mix.mix_nil ?_
        go_upto_region 5 with (fail)
        obtain ⟨c0, c1, c2, c3, c4, c5⟩ := HR7.out.all
        have C93 := Lib.hid (fun n => contains_any (w7.drewN n) B m.vl p.lost (p.sent + 1) HR7.out.hl HF.out.nl)
        by_cases hlost : p.sent + 1 ∈ p.lost
        · as_aux_lemma =>
            rw [decide_eq_true hlost] at C93
            have HLOST := Lib.hid hlost
            clear hlost
            go_quiet (((refine (C93.out _).mono ?_); (intro e w' h; exact ⟨h.1, _, h.2⟩)))
            go_wp2_with fail
            go_meet
            case rel =>
              rw [E1.out, if_pos HLOST.out, ← HG.out]
              have hrw : LRep B (w7.drewN nq) d m { p with sent := p.sent + 1, free := G } := HR7.out.keep fun k _ _ => rfl
              have hrow : (w7.drewN nq).ownsRow w.heap.size 95 6 v' 1 (encR ⟨q.pk, G, 0, dv, 0, q.ord⟩) := own_keep (w := w7) (by simpa using HROW.out) fun k _ _ => rfl
              refine ⟨⟨m, [⟨q.pk, G, 0, dv, 0, q.ord⟩], hrw, ⟨?_, ?_⟩, fun k hk => .inl hk⟩, ?_⟩
              · simpa using hrow
              · exact All2.snoc All2.nil_ ⟨rfl, rfl, rfl, rfl, rfl, HD7.out⟩
              · have h1 : Touch w W2 (OwnL d m) := (Touch.of_below HB.out).trans (HT2.out.mono fun k _ e => .inl e)
                exact (h1.trans (Touch.of_below HB7.out)).trans (Touch.drewN _ _ _)
        · as_aux_lemma =>
            rw [decide_eq_false hlost] at C93
            have HLOST := Lib.hid hlost
            clear hlost
            go_quiet (((refine (C93.out _).mono ?_); (intro e w' h; exact ⟨h.1, _, h.2⟩)))
            go_upto_region 6 with (fail)
            obtain ⟨W8, hW8⟩ : ∃ W8, W8 = w7.drewN nq := ⟨_, rfl⟩
            rw [← hW8]
            have hb8 : Below w7.heap.size w7 W8 := by rw [hW8]; exact below_drewN (Below.refl _ _) _
            have hr8 : LRep B W8 d m { p with sent := p.sent + 1, free := G } := HR7.out.keep fun k hl _ => hb8.block k hl
            have gb8 : W8.heap[w.heap.size]? = some (.cells (encQ q).toArray 99 (0, 0)) := (hb8.block _ (blt HGB7.out)).trans HGB7.out
            have hrow8 : W8.ownsRow w.heap.size 95 6 v' 1 (encR ⟨q.pk, G, 0, dv, 0, q.ord⟩) := own_keep (w := w7) (by simpa using HROW.out) fun k _ hl => hb8.block k hl
            have hd8 : Held B 5 W8 dv [] := HD7.out.below hb8
            have ht8 : Touch w W8 (OwnL d m) := by
              have h1 : Touch w W2 (OwnL d m) := (Touch.of_below HB.out).trans (HT2.out.mono fun k _ e => .inl e)
              exact (h1.trans (Touch.of_below HB7.out)).trans (Touch.of_below hb8)
            have hdat8 : Held B 5 W8.drew q.dv data := HD.out.keep fun k hl ho => by
              have h1 : k ≠ d := fun e => by
                subst e
                rcases ho with ho | ⟨cur, ho⟩
                · have := HR.out.low
                  omega
                · rw [HR.out.cells] at ho
                  simp at ho
              exact (hb8.block k (Nat.lt_of_lt_of_le hl (Nat.le_trans HT2.out.size HB7.out.size))).trans ((HB7.out.block k (Nat.lt_of_lt_of_le hl HT2.out.size)).trans (HT2.out.block k hl h1))
            clear hW8 hb8 c0 c1 c2 c3 c4 c5
            obtain ⟨z0, z1, z2, z3, z4, z5, z6⟩ := (show Box W8 w.heap.size q from gb8).all
            obtain ⟨c0, c1, c2, c3, c4, c5⟩ := hr8.all
            have C47 := Lib.hid (clone_bytes W8.drew W8.drew.heap.size q.dv.1 q.dv.2.1 q.dv.2.2 data hdat8.reads (Nat.le_refl _) hdat8.2.1 (by have := HN64.out; omega))
            have HX := Lib.hid hdat8.2.1
            have HR8 := Lib.hid hr8
            have GB8 := Lib.hid gb8
            have HROW8 := Lib.hid hrow8
            have HD8 := Lib.hid hd8
            have HT8 := Lib.hid ht8
            clear hr8 gb8 hrow8 hd8 ht8 hdat8
            obtain ⟨C3, hCd⟩ : ∃ C : World → Prop, ∀ z, C z ↔ (z.cell? ⟨w.heap.size, 4, none⟩ = some (.slice q.dv.1 q.dv.2.1 q.dv.2.2) ∧ z.cell? ⟨d, 2, none⟩ = some (.int .i64 G) ∧ z.cell? ⟨d, 3, none⟩ = some (.slice m.vm.1 m.vm.2.1 m.vm.2.2)) := ⟨_, fun _ => Iff.rfl⟩
            have s0 := fun s : {z : World // C3 z} => ((hCd s.1).1 s.2).1
            have s1 := fun s : {z : World // C3 z} => ((hCd s.1).1 s.2).2.1
            have s2 := fun s : {z : World // C3 z} => ((hCd s.1).1 s.2).2.2
            have hC0 := (hCd W8.drew).2 ⟨z4, c2, c3⟩
            haveI : Nonempty {z : World // C3 z} := ⟨⟨W8.drew, hC0⟩⟩
            refine Mix.wp_region_mix C3 [12, 14, 15, 18] (by kernel_rfl) (by kernel_rfl) hC0 ?_
            have HCD3 := Lib.hid hCd
            clear hCd hC0
            repeat (refine Mix.mix_still rfl (fun K hK => ?_); go_simp; refine hK _ ?_; clear hK K)
            refine Mix.mix_eff rfl ?_
            go_wp2_with (go_at_call 47; (with_reducible refine (C47.out).mono ?_); rintro e w9 ⟨v9, rfl, hb9, ho9⟩; (obtain ⟨A9, c9, rfl⟩ := own_form ho9); have HB9 := Lib.hid hb9; have HO9 := Lib.hid ho9; clear hb9 ho9)
            have hk9 : ∀ {a : Addr} {v : Value}, W8.drew.cell? a = some v → w9.cell? a = some v := fun h => (HB9.out.cell (lt_of_cell h)).trans h
            refine ⟨(HCD3.out _).2 ⟨hk9 z4, hk9 c2, hk9 c3⟩, ?_⟩
            repeat (refine Mix.mix_still rfl (fun K hK => ?_); go_simp; refine hK _ ?_; clear hK K)
            refine Mix.mix_eff rfl ?_
            refine wpList_build1 _ rfl (.tmp 65) 104 116 rfl #[.int .i64 G, .int .i64 0, .slice A9 q.dv.2.1 c9] rfl (build116 _ _ _ _) ?_
            obtain ⟨Wa, hWa⟩ : ∃ Wa, Wa = w9.alloc (.cells #[.int .i64 G, .int .i64 0, .slice A9 q.dv.2.1 c9] 116) := ⟨_, rfl⟩
            have hna : Wa.heap[w9.heap.size]? = some (.cells #[.int .i64 G, .int .i64 0, .slice A9 q.dv.2.1 c9] 116 (0, 0)) := by rw [hWa]; exact alloc_new w9 _
            have hba : Below w9.heap.size w9 Wa := by rw [hWa]; exact (Below.refl _ _).alloc (Nat.le_refl _) _
            have hka : ∀ {a : Addr} {v : Value}, W8.drew.cell? a = some v → Wa.cell? a = some v := fun hx => (hba.cell (lt_of_cell (hk9 hx))).trans (hk9 hx)
            rw [← hWa]
            refine wpList_nil ⟨rfl, .inr ((HCD3.out Wa).2 ⟨hka z4, hka c2, hka c3⟩), ?_⟩
            refine Mix.mix_eff rfl ?_
            obtain ⟨i1, hi1, hy0, hy1, hy2⟩ := info_parts infoC116
            have hb8a : Below W8.heap.size W8 Wa := by
              have h5 : Below W8.heap.size W8 w9 := ⟨HB9.out.os, HB9.out.tape, HB9.out.output, HB9.out.size, HB9.out.block⟩
              exact h5.trans (hba.mono h5.size)
            have hra : RowO Wa B 116 3 (slv m.vm) m.sm.length (m.sm.flatMap encW) := HR8.out.rm.keep fun k _ hl => hb8a.block k hl
            have hnm : m.sm.length ≤ 100000 := by rw [HR8.out.hm.1]; exact HF.out.nm
            have hlo : B ≤ Wa.heap.size := by have h1 := HR8.out.low; have h2 := blt HR8.out.cells; have := hb8a.size; omega
            have hvm : m.vm.2.1 = m.sm.length := HR8.out.vmn
            refine wpList_append_off _ rfl _ _ 104 rfl B 116 i1 (.agg #[.int .i64 0, .int .i64 0, .slice none 0 0]) 3 40 Try.underlying104 hi1 hy0 hy1 hy2 rfl (by decide) (slv m.vm) m.sm.length (m.sm.flatMap encW) rfl hra Wa.heap.size (some ⟨w9.heap.size, 0, none⟩) 1 1 (encW (G, 0, (A9, q.dv.2.1, c9))) rfl ?rd ?one (by unfold maxLen; omega) (by omega) hlo ?_
            case rd => exact ⟨rfl, fun _ => ⟨_, rfl, blt hna, fun i u hu => by rw [Addr.add_lit, Nat.zero_add, cell_of hna]; simpa [encW] using hu⟩⟩
            case one =>
              intro u hu
              simp [encW] at hu
              rcases hu with rfl | rfl | rfl <;> rfl
            intro vb wb hrowb hgrowb hlocb
            obtain ⟨Ab, cb, rfl⟩ := hrowb.form
            have hblb : ∀ k, k < W8.heap.size → oblock (slv m.vm) ≠ some k → wb.heap[k]? = W8.heap[k]? := fun k hk hne => (hgrowb.block k (Nat.lt_of_lt_of_le hk hb8a.size) (fun e => hne e.symm)).trans (hb8a.block k hk)
            have hdb := (hblb d (blt HR8.out.cells) ((HR8.out.ne_ty HR8.out.cells).2.1 (by decide))).trans HR8.out.cells
            have gbb := (hblb _ (blt GB8.out) ((HR8.out.ne_ty GB8.out).2.1 (by decide))).trans GB8.out
            have q2 : wb.cell? ⟨d, 2, none⟩ = some (.int .i64 G) := (cell_of hdb 2).trans rfl
            have q3 : wb.cell? ⟨d, 3, none⟩ = some (.slice m.vm.1 m.vm.2.1 m.vm.2.2) := (cell_of hdb 3).trans rfl
            have qf : wb.frozen? ⟨d, 3, none⟩ = false := free_of hdb 3
            obtain ⟨_, _, _, _, y4, _, _⟩ := (show Box wb w.heap.size q from gbb).all
            refine wpList_nil ⟨rfl, .inr ((HCD3.out _).2 ⟨y4, q2, q3⟩), ?_⟩
            have hdvb : Held B 5 wb (A9, q.dv.2.1, c9) data := by
              obtain ⟨v, e, _, hh⟩ := Held.of_own (B := B) HO9.out HX.out
              have e : v = (A9, q.dv.2.1, c9) := by
                obtain ⟨x, y, z⟩ := v
                injection e with e1 e2 e3
                subst e1 e2 e3
                rfl
              subst e
              have hh2 := hh.below hba
              refine hh2.keep fun k hk ho => hgrowb.block k hk fun e => ?_
              obtain ⟨hbk, cur, hc⟩ := hra.block e.symm
              rcases ho with ho | ⟨cur', ho⟩
              · omega
              · rw [hc] at ho
                simp at ho
            have HROWB := Lib.hid hrowb
            have HGROWB := Lib.hid hgrowb
            have HLOCB := Lib.hid hlocb
            have HBLB := Lib.hid hblb
            have HB8A := Lib.hid hb8a
            have HDVB := Lib.hid hdvb
            clear hrowb hgrowb hlocb hblb hb8a hdvb hra hna hba hka hk9 hWa hlo hnm hvm hdb gbb y4 z0 z1 z2 z3 z4 z5 z6 c0 c1 c2 c3 c4 c5 s0 s1 s2 hi1 hy0 hy1 hy2
            repeat (refine Mix.mix_still rfl (fun K hK => ?_); go_simp; refine hK _ ?_; clear hK K)
            refine Mix.mix_eff rfl ?_
            go_wp2_with fail
            refine Mix.mix_nil ?_
            go_wp2_with fail
            go_meet
            case rel =>
              rw [E1.out, if_neg HLOST.out, ← HG.out]
              have hrep := HR8.out.sends HROWB.out HBLB.out HDVB.out
              have htm : Touch W8 wb (fun k => oblock (slv m.vm) = some k) := (Touch.of_below HB8A.out).andThen (Touch.grown HGROWB.out) fun k _ e => e.symm
              have hts : Touch W8 (wb.setCell ⟨d, 3, none⟩ (.slice Ab (m.sm.length + 1) cb)) (OwnL d m) := (htm.mono fun k _ e => .inr (.inl e)).trans (Touch.setCell wb _ _ (.inl rfl))
              have h8 : w.heap.size ≤ W8.heap.size := HT8.out.size
              refine ⟨⟨_, [⟨q.pk, G, 0, dv, 0, q.ord⟩], hrep, ⟨?_, ?_⟩, fun k hk => ?_⟩, HT8.out.trans hts⟩
              · have h1 : (wb.setCell ⟨d, 3, none⟩ (.slice Ab (m.sm.length + 1) cb)).ownsRow w.heap.size 95 6 v' 1 (encR ⟨q.pk, G, 0, dv, 0, q.ord⟩) := own_keep HROW8.out fun k hk hl => by
                  refine hts.block k hl fun e => ?_
                  obtain ⟨_, cur, hc⟩ := own_block HROW8.out hk
                  obtain ⟨_, cur', ty, hc', ht⟩ := HR8.out.tys e
                  rw [hc] at hc'
                  simp at hc'
                  obtain ⟨_, rfl⟩ := hc'
                  simp at ht
                simpa using h1
              · refine All2.snoc All2.nil_ ⟨rfl, rfl, rfl, rfl, rfl, ?_⟩
                exact HD8.out.keep fun k hk ho => hts.block k hk fun e => HR8.out.still (ho.imp id fun ⟨cur, hh⟩ => ⟨cur, 5, hh, .inl rfl⟩) e
              · rcases hk with hk | hk | hk
                · exact .inl (.inl hk)
                · rcases HLOCB.out with e | e
                  · exact .inl (.inr (.inl (e ▸ hk)))
                  · refine .inr ?_
                    have hk : oblock (.slice Ab (m.sm.length + 1) cb) = some k := hk
                    rw [e] at hk
                    injection hk with hk
                    have := HB8A.out.size
                    omega
                · exact .inl (.inr (.inr hk))
  case rest =>
    as_aux_lemma =>
      obtain ⟨p1, hp1⟩ : ∃ p1, p1 = (addF p q data).1 := ⟨_, rfl⟩
      obtain ⟨os, hos⟩ : ∃ os, os = (addF p q data).2 := ⟨_, rfl⟩
      rw [← hp1, ← hos] at hcut
      have hN : os.length + p1.wait.length ≤ 200000 := by
        have h1 := HF.out.nw
        rw [hos, hp1]; unfold addF; split <;> simp <;> omega
      have hM : ∀ x ∈ p1.msgs, x.2.length ≤ 1000000 := by
        have h1 := HF.out.md
        rw [hp1]; unfold addF; split
        · exact h1
        · rename_i hne
          have h2 := HN.out (hq.resolve_left hne)
          intro x hx
          simp only at hx
          split at hx
          · exact h1 x hx
          · rcases List.mem_append.1 hx with hx | hx
            · exact h1 x hx
            · rw [List.mem_singleton.1 hx]; simp only; omega
      have HP1 := Lib.hid hp1
      have HOS := Lib.hid hos
      have HNN := Lib.hid hN
      have HMM := Lib.hid hM
      have HC := Lib.hid hcut
      clear hp1 hos hcut hq hN hM
      go_wp2_with fail
      go_loopw [5] (fun v wr => ∃ p2 os2, Meeting B w d m p1 os p2 os2 v wr) (fun v _ => os.length + p1.wait.length - rowLen v)
      case atStart => exact ⟨p1, os, HC.out, rfl, rfl, rfl, HMM.out⟩
      case round =>
        obtain ⟨p2, os2, hR⟩ := hrel
        obtain ⟨⟨⟨m2, rs2, hrep, hout, hown⟩, htouch⟩, h1, h2, h3, h4⟩ := hR
        obtain ⟨c0, c1, c2, c3, c4, c5⟩ := hrep.all
        have HR2 := Lib.hid hrep
        have HOUT := Lib.hid hout
        have HOWN := Lib.hid hown
        have HT2 := Lib.hid htouch
        have HM1 := Lib.hid h1
        have HM2 := Lib.hid h2
        have HM3 := Lib.hid h3
        have HM4 := Lib.hid h4
        have hvm := hrep.vmn
        have hvq := hrep.vqn
        have hl := hrep.hm.1
        clear hrep hout hown htouch h1 h2 h3 h4
        have hend : meetF p2 = (p2, []) → ∀ s5, Added B w d m w.heap.size p2 os2 s5 wr → Added B w d m w.heap.size (lineF p q data).1 (lineF p q data).2 s5 wr := fun hm s5 ha => by
          have h5 := Meeting.done ⟨ha, HM1.out, HM2.out, HM3.out, HM4.out⟩ hm
          show Added B w d m w.heap.size (meetF (addF p q data).1).1 ((addF p q data).2 ++ (meetF (addF p q data).1).2) s5 wr
          rw [← HP1.out, ← HOS.out]
          exact h5
        have HEND := Lib.hid hend
        clear hend
        rcases hw : p2.wait with _ | ⟨q0, qs⟩
        · as_aux_lemma =>
            obtain ⟨vl2, vm2, ⟨qa, qn, qc⟩, sm2⟩ := m2
            have hz : qn = 0 := by have e : qn = p2.wait.length := hvq; rw [hw] at e; exact e
            clear hvq
            subst hz
            have HW := Lib.hid hw
            clear hw hvm hl
            go_wp2_with fail
            go_ret
            exact ⟨_, rfl, HEND.out (meet_nil1 HW.out) _ ⟨⟨_, rs2, HR2.out, HOUT.out, HOWN.out⟩, HT2.out⟩⟩
        · rcases hg : p2.msgs with _ | ⟨x0, ms⟩
          · as_aux_lemma =>
              obtain ⟨vl2, ⟨ma, mn, mc⟩, ⟨qa, qn, qc⟩, sm2⟩ := m2
              have hz : mn = 0 := by have e : mn = sm2.length := hvm; have e2 : sm2.length = p2.msgs.length := hl; rw [hg] at e2; rw [e, e2]; rfl
              have hq1 : qn = qs.length + 1 := by have e : qn = p2.wait.length := hvq; rw [hw] at e; rw [e]; rfl
              clear hvm hvq
              subst hz hq1
              have HG := Lib.hid hg
              clear hw hl hg
              go_wp2_with fail
              go_ret
              exact ⟨_, rfl, HEND.out (meet_nil2 HG.out) _ ⟨⟨_, rs2, HR2.out, HOUT.out, HOWN.out⟩, HT2.out⟩⟩
          · as_aux_lemma =>
              obtain ⟨vl2, vm2, vq2, sm2⟩ := m2
              have hrep := HR2.out
              have hsl : sm2.length = ms.length + 1 := by have e2 : sm2.length = p2.msgs.length := hl; rw [hg] at e2; exact e2
              obtain ⟨s0, sm, rfl⟩ : ∃ s0 sm, sm2 = s0 :: sm := by
                cases sm2 with
                | nil => simp at hsl
                | cons s l => exact ⟨s, l, rfl⟩
              have hrq := hrep.rq
              rw [hw] at hrq
              obtain ⟨gq, oq, cq, hvq2, hcq⟩ := RowO.head (f := encQ) (sz := 7) (x := q0) (l := qs) (v := vq2) (fun _ => rfl) hrq (by decide)
              obtain ⟨gm, om, cm, hvm2, hcm⟩ := RowO.head (f := encW) (sz := 3) (x := s0) (l := sm) (v := vm2) (fun _ => rfl) hrep.rm (by decide)
              have hvq2 : vq2 = (some ⟨gq, oq, none⟩, qs.length + 1, cq) := hvq2
              have hvm2 : vm2 = (some ⟨gm, om, none⟩, sm.length + 1, cm) := hvm2
              subst hvq2 hvm2
              have q0c : wr.cell? ⟨gq, oq, none⟩ = some (.int .i64 q0.pk) := hcq 0 (by omega)
              have q1c : wr.cell? ⟨gq, oq + 1, none⟩ = some (.int .i64 q0.do_) := hcq 1 (by omega)
              have q2c : wr.cell? ⟨gq, oq + 2, none⟩ = some (.int .i64 q0.a_) := hcq 2 (by omega)
              have q3c : wr.cell? ⟨gq, oq + 3, none⟩ = some (.int .i64 q0.b_) := hcq 3 (by omega)
              have q4c : wr.cell? ⟨gq, oq + 4, none⟩ = some (.slice q0.dv.1 q0.dv.2.1 q0.dv.2.2) := hcq 4 (by omega)
              have q5c : wr.cell? ⟨gq, oq + 5, none⟩ = some (.int .i64 q0.at_) := hcq 5 (by omega)
              have q6c : wr.cell? ⟨gq, oq + 6, none⟩ = some (.int .i64 q0.ord) := hcq 6 (by omega)
              have m0c : wr.cell? ⟨gm, om, none⟩ = some (.int .i64 s0.1) := hcm 0 (by omega)
              have m1c : wr.cell? ⟨gm, om + 1, none⟩ = some (.int .i64 s0.2.1) := hcm 1 (by omega)
              have m2c : wr.cell? ⟨gm, om + 2, none⟩ = some (.slice s0.2.2.1 s0.2.2.2.1 s0.2.2.2.2) := hcm 2 (by omega)
              have hl1 : ¬ ((qs.length : Int) + 1) < 1 := by omega
              have hl2 : ¬ ((sm.length : Int) + 1) < 1 := by omega
              have HW := Lib.hid hw
              have HG := Lib.hid hg
              have HSL := Lib.hid hsl
              clear hvq hvm hl hrep hrq hcq hcm hw hg hsl
              go_upto_region 12 with (fail)
              go_cut [6, 7] from 96 to 163 (fun s6 s7 wx => ∃ b6 b7, s6 = ptr b6 ∧ s7 = ptr b7 ∧ Box wx b6 q0 ∧ wx.heap[b7]? = some (.cells (encW s0).toArray 116 (0, 0)) ∧ Below wr.heap.size wr wx ∧ wr.heap.size ≤ b6 ∧ wr.heap.size ≤ b7)
              case first =>
                go_region_held3 (fun w' => w'.cell? ⟨gq, oq, none⟩ = some (.int .i64 q0.pk) ∧ w'.cell? ⟨gq, oq + 1, none⟩ = some (.int .i64 q0.do_) ∧ w'.cell? ⟨gq, oq + 2, none⟩ = some (.int .i64 q0.a_) ∧ w'.cell? ⟨gq, oq + 3, none⟩ = some (.int .i64 q0.b_) ∧ w'.cell? ⟨gq, oq + 4, none⟩ = some (.slice q0.dv.1 q0.dv.2.1 q0.dv.2.2) ∧ w'.cell? ⟨gq, oq + 5, none⟩ = some (.int .i64 q0.at_) ∧ w'.cell? ⟨gq, oq + 6, none⟩ = some (.int .i64 q0.ord) ∧ w'.cell? ⟨gm, om, none⟩ = some (.int .i64 s0.1) ∧ w'.cell? ⟨gm, om + 1, none⟩ = some (.int .i64 s0.2.1) ∧ w'.cell? ⟨gm, om + 2, none⟩ = some (.slice s0.2.2.1 s0.2.2.2.1 s0.2.2.2.2) ∧ w'.cell? ⟨d, 3, none⟩ = some (.slice (some ⟨gm, om, none⟩) (sm.length + 1) cm) ∧ w'.cell? ⟨d, 4, none⟩ = some (.slice (some ⟨gq, oq, none⟩) (qs.length + 1) cq)) (go_keep) (fail)
                · go_wp2_with fail
                  go_meet
                  case rel => exact two_new1 wr q0 s0
                · go_wp2_with fail
                  go_meet
                  case rel => exact two_new2 wr q0 s0
              case rest =>
                obtain ⟨b6, b7, rfl, rfl, hb6, hb7, hbw, hl6, hl7⟩ := hcut
                have hrep : LRep B wc d ⟨vl2, (some ⟨gm, om, none⟩, sm.length + 1, cm), (some ⟨gq, oq, none⟩, qs.length + 1, cq), s0 :: sm⟩ p2 := HR2.out.keep fun k hl _ => hbw.block k hl
                clear q0c q1c q2c q3c q4c q5c q6c m0c m1c m2c c0 c1 c2 c3 c4 c5
                obtain ⟨c0, c1, c2, c3, c4, c5⟩ := hrep.all
                have f3 := hrep.frees 3
                have f4 := hrep.frees 4
                have HB6 := Lib.hid hb6
                have HB7 := Lib.hid hb7
                have HBW := Lib.hid hbw
                have HL6 := Lib.hid hl6
                have HL7 := Lib.hid hl7
                have HREP := Lib.hid hrep
                clear hb6 hb7 hbw hl6 hl7 hrep
                go_upto_region 13 with (fail)
                obtain ⟨C, hCd⟩ : ∃ C : World → Prop, ∀ z, C z ↔ (z.cell? ⟨d, 3, none⟩ = some (.slice (some ⟨gm, om, none⟩) (sm.length + 1) cm)) := ⟨_, fun _ => Iff.rfl⟩
                have s0' := fun s : {z : World // C z} => (hCd s.1).1 s.2
                have hC0 := (hCd wc.drew).2 c3
                haveI : Nonempty {z : World // C z} := ⟨⟨wc.drew, hC0⟩⟩
                refine Mix.wp_region_mix C [5, 14, 17] (by kernel_rfl) (by kernel_rfl) hC0 ?_
                have HCD := Lib.hid hCd
                have HC0 := Lib.hid hC0
                clear hCd hC0
                repeat (refine Mix.mix_still rfl (fun K hK => ?_); go_simp; refine hK _ ?_; clear hK K)
                refine Mix.mix_eff rfl ?_
                go_wp2_with fail
                refine ⟨HC0.out, ?_⟩
                repeat (refine Mix.mix_still rfl (fun K hK => ?_); go_simp; refine hK _ ?_; clear hK K)
                obtain ⟨aq, haq⟩ : ∃ aq, aq = (if cq = 1 then some (⟨gq, oq, none⟩ : Addr) else some ⟨gq, oq + 7, none⟩) := ⟨_, rfl⟩
                obtain ⟨am, ham⟩ : ∃ am, am = (if cm = 1 then some (⟨gm, om, none⟩ : Addr) else some ⟨gm, om + 3, none⟩) := ⟨_, rfl⟩
                rw [← haq, ← ham]
                have HAQ := Lib.hid haq
                have HAM := Lib.hid ham
                clear haq ham
                refine Mix.mix_eff rfl ?_
                go_wp2_with fail
                refine ⟨(HCD.out _).2 ((World.cell?_setCell_other _ _ _ _ (by simp)).trans c3), ?_⟩
                repeat (refine Mix.mix_still rfl (fun K hK => ?_); go_simp; refine hK _ ?_; clear hK K)
                refine Mix.mix_eff rfl ?_
                go_wp2_with fail
                refine Mix.mix_nil ?_
                go_upto_region 14 with (fail)
                obtain ⟨hr1, hown1, ht1⟩ := HREP.out.cuts HW.out HG.out HAQ.out HAM.out
                obtain ⟨W1, hW1⟩ : ∃ W1, W1 = ((wc.setCell ⟨d, 4, none⟩ (.slice aq qs.length (cq - 1))).setCell ⟨d, 3, none⟩ (.slice am sm.length (cm - 1))).drew := ⟨_, rfl⟩
                rw [← hW1] at hr1 ht1 ⊢
                have hd1 : d < wr.heap.size := blt HR2.out.cells
                have g6 := (ht1.block b6 (blt HB6.out) (fun e => by have := HL6.out; omega)).trans HB6.out
                have g7 := (ht1.block b7 (blt HB7.out) (fun e => by have := HL7.out; omega)).trans HB7.out
                clear c0 c1 c2 c3 c4 c5 f3 f4 hW1 s0'
                obtain ⟨c0, c1, c2, c3, c4, c5⟩ := hr1.all
                have f5 := hr1.frees 5
                obtain ⟨z0, z1, z2, z3, z4, z5, z6⟩ := (show Box W1 b6 q0 from g6).all
                have y0 : W1.cell? ⟨b7, 0, none⟩ = some (.int .i64 s0.1) := (cell_of g7 0).trans rfl
                obtain ⟨r, hr⟩ : ∃ r, r = max (max p2.recv q0.at_) s0.1 := ⟨_, rfl⟩
                have qm : ∀ (ts : Array TypeId) (t : TypeId) (w : World), (Builtin.max_ ts t #[.int .i64 p2.recv, .int .i64 q0.at_, .int .i64 s0.1]).run Try.prog w = .ok (.int .i64 r) w := fun ts t w => by
                  rw [hr]
                  simp only [go_sem]
                  congr 2
                  split <;> split <;> omega
                have HRR := Lib.hid hr
                have HR1 := Lib.hid hr1
                have HOWN1 := Lib.hid hown1
                have HT1 := Lib.hid ht1
                have HG6 := Lib.hid g6
                have HG7 := Lib.hid g7
                have HD1 := Lib.hid hd1
                clear hr hr1 hown1 ht1 g6 g7 hd1
                obtain ⟨C4, hCd⟩ : ∃ C : World → Prop, ∀ z, C z ↔ (z.cell? ⟨d, 5, none⟩ = some (.int .i64 p2.recv) ∧ z.cell? ⟨b6, 5, none⟩ = some (.int .i64 q0.at_) ∧ z.cell? ⟨b7, 0, none⟩ = some (.int .i64 s0.1)) := ⟨_, fun _ => Iff.rfl⟩
                have t0 := fun s : {z : World // C4 z} => ((hCd s.1).1 s.2).1
                have t1 := fun s : {z : World // C4 z} => ((hCd s.1).1 s.2).2.1
                have t2 := fun s : {z : World // C4 z} => ((hCd s.1).1 s.2).2.2
                have hC0 := (hCd W1.drew).2 ⟨c5, z5, y0⟩
                haveI : Nonempty {z : World // C4 z} := ⟨⟨W1.drew, hC0⟩⟩
                refine Mix.wp_region_mix C4 [12] (by kernel_rfl) (by kernel_rfl) hC0 ?_
                have HCD4 := Lib.hid hCd
                clear hCd hC0
                repeat (refine Mix.mix_still rfl (fun K hK => ?_); go_simp; refine hK _ ?_; clear hK K)
                refine Mix.mix_eff rfl ?_
                go_wp2_with fail
                refine Mix.mix_nil ?_
                go_upto_region 15 with (fail)
                obtain ⟨W2, hW2⟩ : ∃ W2, W2 = (W1.setCell ⟨d, 5, none⟩ (.int .i64 r)).drew := ⟨_, rfl⟩
                rw [← hW2]
                have hr2 := HR1.out.recv_ r 1
                have hr2 : LRep B W2 d ⟨vl2, (am, sm.length, cm - 1), (aq, qs.length, cq - 1), sm⟩ { p2 with wait := qs, msgs := ms, recv := r } := by rw [hW2]; exact hr2
                have ht2 : Touch W1 W2 (· = d) := by rw [hW2]; exact (Touch.setCell W1 ⟨d, 5, none⟩ _ (S := (· = d)) rfl).trans (Touch.drew _ _)
                clear c0 c1 c2 c3 c4 c5 f5 hW2 z0 z1 z2 z3 z4 z5 z6 y0 t0 t1 t2 qm
                have hbw : wr.heap.size ≤ wc.heap.size := HBW.out.size
                have g6 := (ht2.block b6 (blt HG6.out) (fun e => by have := HL6.out; have := HD1.out; omega)).trans HG6.out
                have g7 := (ht2.block b7 (blt HG7.out) (fun e => by have := HL7.out; have := HD1.out; omega)).trans HG7.out
                have hwt : Touch wr W2 (· = d) := ((Touch.of_below HBW.out).trans HT1.out).trans ht2
                obtain ⟨hx1, hx2⟩ := HR2.out.hm.2 0 s0 x0 rfl (by rw [HG.out]; rfl)
                have hx3 : Held B 5 W2 s0.2.2 x0.2 := hx2.keep fun k hk ho => hwt.block k hk fun e => HR2.out.still (ho.imp id fun ⟨cur, hh⟩ => ⟨cur, 5, hh, .inl rfl⟩) (.inl e)
                have hxl : s0.2.2.2.1 = x0.2.length := hx3.1.symm
                have hxm : x0.2.length ≤ 1000000 := HM4.out x0 (by rw [HG.out]; simp)
                obtain ⟨z0, z1, z2, z3, z4, z5, z6⟩ := (show Box W2 b6 q0 from g6).all
                have y2 : W2.cell? ⟨b7, 2, none⟩ = some (.slice s0.2.2.1 s0.2.2.2.1 s0.2.2.2.2) := (cell_of g7 2).trans rfl
                obtain ⟨c0, c1, c2, c3, c4, c5⟩ := hr2.all
                have hB2 : B ≤ W2.heap.size := by have := hr2.low; have := blt hr2.cells; omega
                have C91 := Lib.hid (answer_any W2.drew B q0 r (s0.2.2.2.1 : Int) s0.2.2 x0.2 hx3 hB2 (by rw [hxl]; exact hxm))
                have hbox : (encQ q0).toArray = #[.int .i64 q0.pk, .int .i64 q0.do_, .int .i64 q0.a_, .int .i64 q0.b_, .slice q0.dv.1 q0.dv.2.1 q0.dv.2.2, .int .i64 q0.at_, .int .i64 q0.ord] := rfl
                rw [hbox] at C91
                unfold encR at C91
                have HX1 := Lib.hid hx1
                have HXL := Lib.hid hxl
                have HRW2 := Lib.hid hr2
                have HT2' := Lib.hid hwt
                have HB2 := Lib.hid hB2
                have HB6W := Lib.hid g6
                have HB7W := Lib.hid g7
                clear hbox hr2 ht2 g6 g7 hwt hx1 hx2 hx3 hxl hxm hB2 hbw
                obtain ⟨C5, hCd⟩ : ∃ C : World → Prop, ∀ z, C z ↔ (z.cell? ⟨b6, 0, none⟩ = some (.int .i64 q0.pk) ∧ z.cell? ⟨b6, 1, none⟩ = some (.int .i64 q0.do_) ∧ z.cell? ⟨b6, 2, none⟩ = some (.int .i64 q0.a_) ∧ z.cell? ⟨b6, 3, none⟩ = some (.int .i64 q0.b_) ∧ z.cell? ⟨b6, 4, none⟩ = some (.slice q0.dv.1 q0.dv.2.1 q0.dv.2.2) ∧ z.cell? ⟨b6, 5, none⟩ = some (.int .i64 q0.at_) ∧ z.cell? ⟨b6, 6, none⟩ = some (.int .i64 q0.ord) ∧ z.cell? ⟨d, 5, none⟩ = some (.int .i64 r) ∧ z.cell? ⟨b7, 2, none⟩ = some (.slice s0.2.2.1 s0.2.2.2.1 s0.2.2.2.2)) := ⟨_, fun _ => Iff.rfl⟩
                have t0 := fun s : {z : World // C5 z} => ((hCd s.1).1 s.2).1
                have t1 := fun s : {z : World // C5 z} => ((hCd s.1).1 s.2).2.1
                have t2 := fun s : {z : World // C5 z} => ((hCd s.1).1 s.2).2.2.1
                have t3 := fun s : {z : World // C5 z} => ((hCd s.1).1 s.2).2.2.2.1
                have t4 := fun s : {z : World // C5 z} => ((hCd s.1).1 s.2).2.2.2.2.1
                have t5 := fun s : {z : World // C5 z} => ((hCd s.1).1 s.2).2.2.2.2.2.1
                have t6 := fun s : {z : World // C5 z} => ((hCd s.1).1 s.2).2.2.2.2.2.2.1
                have t7 := fun s : {z : World // C5 z} => ((hCd s.1).1 s.2).2.2.2.2.2.2.2.1
                have t8 := fun s : {z : World // C5 z} => ((hCd s.1).1 s.2).2.2.2.2.2.2.2.2
                have hC0 := (hCd W2.drew).2 ⟨z0, z1, z2, z3, z4, z5, z6, c5, y2⟩
                haveI : Nonempty {z : World // C5 z} := ⟨⟨W2.drew, hC0⟩⟩
                refine Mix.wp_region_mix C5 [11, 12, 13] (by kernel_rfl) (by kernel_rfl) hC0 ?_
                have HCD5 := Lib.hid hCd
                clear hCd hC0
                repeat (refine Mix.mix_still rfl (fun K hK => ?_); go_simp; refine hK _ ?_; clear hK K)
                refine Mix.mix_eff rfl ?_
                go_wp2_with (go_at_call 91; (with_reducible refine (C91.out).mono ?_); rintro e w5 ⟨dv, rfl, hb5, hd5⟩; have HB5 := Lib.hid hb5; have HD5 := Lib.hid hd5; clear hb5 hd5)
                have hk5 : ∀ {a : Addr} {v : Value}, W2.drew.cell? a = some v → w5.cell? a = some v := fun h => (HB5.out.cell (lt_of_cell h)).trans h
                refine ⟨(HCD5.out _).2 ⟨hk5 z0, hk5 z1, hk5 z2, hk5 z3, hk5 z4, hk5 z5, hk5 z6, hk5 c5, hk5 y2⟩, ?_⟩
                refine Mix.mix_eff rfl ?_
                refine wpList_build1 _ rfl (.tmp 161) 78 95 rfl #[.int .i64 q0.pk, .int .i64 r, .int .i64 (s0.2.2.2.1 : Int), .slice dv.1 dv.2.1 dv.2.2, .int .i64 0, .int .i64 q0.ord] rfl (build95 _ _ _ _ _ _ _) ?_
                obtain ⟨W6, hW6⟩ : ∃ W6, W6 = w5.alloc (.cells #[.int .i64 q0.pk, .int .i64 r, .int .i64 (s0.2.2.2.1 : Int), .slice dv.1 dv.2.1 dv.2.2, .int .i64 0, .int .i64 q0.ord] 95) := ⟨_, rfl⟩
                have hn6 : W6.heap[w5.heap.size]? = some (.cells (encR ⟨q0.pk, r, (s0.2.2.2.1 : Int), dv, 0, q0.ord⟩).toArray 95 (0, 0)) := by rw [hW6]; exact alloc_new w5 _
                have hb6 : Below w5.heap.size w5 W6 := by rw [hW6]; exact (Below.refl _ _).alloc (Nat.le_refl _) _
                have hk6 : ∀ {a : Addr} {v : Value}, W2.drew.cell? a = some v → W6.cell? a = some v := fun hx => (hb6.cell (lt_of_cell (hk5 hx))).trans (hk5 hx)
                rw [← hW6]
                refine wpList_nil ⟨rfl, .inr ((HCD5.out W6).2 ⟨hk6 z0, hk6 z1, hk6 z2, hk6 z3, hk6 z4, hk6 z5, hk6 z6, hk6 c5, hk6 y2⟩), ?_⟩
                refine Mix.mix_eff rfl ?_
                obtain ⟨i0, hi, hz0, hz1, hz2⟩ := info_parts infoA95
                have h26 : Below W2.heap.size W2 W6 := by
                  have h5 : Below W2.heap.size W2 w5 := ⟨HB5.out.os, HB5.out.tape, HB5.out.output, HB5.out.size, HB5.out.block⟩
                  exact h5.trans (hb6.mono h5.size)
                have hrow6 := own_keep (w' := W6) HOUT.out.row fun k hk hl => by
                  have hkd : k ≠ d := fun e => by
                    subst e
                    exact own_ty HOUT.out.row HR2.out.cells (by decide) hk
                  exact (h26.block k (Nat.lt_of_lt_of_le hl HT2'.out.size)).trans (HT2'.out.block k hl hkd)
                have hrl : rs2.length ≤ 200000 := by
                  have h1 := HM3.out
                  have h2 := HNN.out
                  have h3 := HOUT.out.ans.1
                  omega
                have hlo : w.heap.size ≤ W6.heap.size := by
                  have h1 := HT2.out.size; have h2 := HT2'.out.size; have h3 := h26.size
                  omega
                refine wpList_append_any _ rfl _ _ 78 rfl w.heap.size 95 i0 (.agg #[.int .i64 0, .int .i64 0, .int .i64 0, .slice none 0 0, .int .i64 0, .int .i64 0]) 6 64 Try.underlying78 hi hz0 hz1 hz2 rfl (by decide) _ rs2.length (rs2.flatMap encR) rfl hrow6 W6.heap.size (some ⟨w5.heap.size, 0, none⟩) 1 1 (encR ⟨q0.pk, r, (s0.2.2.2.1 : Int), dv, 0, q0.ord⟩) rfl ?rd (encR_one _) (by unfold maxLen; omega) (by omega) hlo ?_
                case rd => exact ⟨rfl, fun _ => ⟨_, rfl, blt hn6, fun i u hu => by rw [Addr.add_lit, Nat.zero_add, cell_of hn6]; simpa using hu⟩⟩
                intro v' w7 hrow7 hgrow7 hloc7
                obtain ⟨A7, n7, rfl⟩ := own_form hrow7
                have htw : Touch W2 w7 (fun k => u5.ownBlock = some k) := (Touch.of_below h26).andThen (Touch.grown hgrow7) fun k _ e => e.symm
                have hu : ∀ k, u5.ownBlock = some k → w.heap.size ≤ k ∧ k < wr.heap.size ∧ ∃ cur, W2.heap[k]? = some (.cells cur 95 (0, 0)) := fun k hk => by
                  obtain ⟨hb, cur, hc⟩ := own_block HOUT.out.row hk
                  exact ⟨hb, blt hc, cur, (HT2'.out.block k (blt hc) fun e => own_ty HOUT.out.row HR2.out.cells (by decide) (e ▸ hk)).trans hc⟩
                have hkw : ∀ {k : Nat} {cur : Array Value} {ty : TypeId}, W2.heap[k]? = some (.cells cur ty (0, 0)) → ty ≠ 95 → w7.heap[k]? = some (.cells cur ty (0, 0)) := fun hc ht => (htw.block _ (blt hc) fun e => by
                  obtain ⟨_, _, cur', hc'⟩ := hu _ e
                  rw [hc] at hc'
                  simp at hc'
                  exact ht hc'.2).trans hc
                have g6 : W2.heap[b6]? = some (.cells (encQ q0).toArray 99 (0, 0)) := HB6W.out
                have g67 := hkw g6 (by decide)
                have g77 := hkw HB7W.out (by decide)
                have gd7 := hkw HRW2.out.cells (by decide)
                obtain ⟨x0', x1', x2', x3', x4', x5', x6'⟩ := (show Box w7 b6 q0 from g67).all
                refine wpList_nil ⟨rfl, .inr ((HCD5.out w7).2 ⟨x0', x1', x2', x3', x4', x5', x6', (cell_of gd7 5).trans rfl, (cell_of g77 2).trans rfl⟩), ?_⟩
                have HROW7 := Lib.hid hrow7
                have HTW := Lib.hid htw
                have HU := Lib.hid hu
                have hd7 : Held B 5 w7 dv x0.2 := HD5.out.keep fun k hk ho => (hgrow7.block k (Nat.lt_of_lt_of_le hk hb6.size) (fun e => by
                  obtain ⟨h1, h2, cur, hc⟩ := hu k e.symm
                  have h3 := HT2'.out.size
                  have h5 : w5.heap[k]? = some (.cells cur 95 (0, 0)) := (HB5.out.block k (Nat.lt_of_lt_of_le h2 h3)).trans hc
                  rcases ho with ho | ⟨cur', ho⟩
                  · have := H.out.low
                    have := HDL.out
                    omega
                  · rw [h5] at ho
                    simp at ho)).trans (hb6.block k hk)
                have HD7 := Lib.hid hd7
                clear hrow7 hgrow7 hloc7 htw hu hkw g6 g67 g77 gd7 x0' x1' x2' x3' x4' x5' x6' hd7 hk5 hk6 hn6 hb6 hW6 h26 hrow6 hlo z0 z1 z2 z3 z4 z5 z6 y2 c0 c1 c2 c3 c4 c5 t0 t1 t2 t3 t4 t5 t6 t7 t8 hi hz0 hz1 hz2
                repeat (refine Mix.mix_still rfl (fun K hK => ?_); go_simp; refine hK _ ?_; clear hK K)
                refine Mix.mix_nil ?_
                go_wp2_with fail
                go_roundw
                case rel =>
                  obtain ⟨e1, e2⟩ := meet_cons HW.out HG.out
                  rw [← HX1.out, ← HRR.out] at e1 e2
                  have hst : ∀ k, k < wr.heap.size → Still B wr k → w7.heap[k]? = wr.heap[k]? := fun k hk hs => by
                    have hkd : k ≠ d := fun e => HR2.out.still hs (.inl e)
                    refine (HTW.out.block k (Nat.lt_of_lt_of_le hk HT2'.out.size) fun e => ?_).trans (HT2'.out.block k hk hkd)
                    obtain ⟨h1, h2, cur, hc⟩ := HU.out k e
                    have hc' := (HT2'.out.block k hk hkd).symm.trans hc
                    rcases hs with hs | ⟨cur', ty, hs, ht⟩
                    · have := H.out.low
                      have := HDL.out
                      omega
                    · rw [hc'] at hs
                      simp at hs
                      obtain ⟨_, rfl⟩ := hs
                      simp at ht
                  refine ⟨{ p2 with wait := qs, msgs := ms, recv := r }, os2 ++ [(q0, r, (x0.2.length : Int), x0.2)], ⟨⟨⟨⟨vl2, (am, sm.length, cm - 1), (aq, qs.length, cq - 1), sm⟩, rs2 ++ [⟨q0.pk, r, (s0.2.2.2.1 : Int), dv, 0, q0.ord⟩], ?_, ⟨?_, ?_⟩, fun k hk => HOWN.out k (HOWN1.out k hk)⟩, ?_⟩, ?_, ?_, ?_, fun x hx => HM4.out x (by rw [HG.out]; simp [hx])⟩⟩
                  · refine HRW2.out.keep fun k hk ho => HTW.out.block k hk fun e => ?_
                    obtain ⟨h1, h2, cur, hc⟩ := HU.out k e
                    rcases ho with ho | ho
                    · obtain ⟨_, cur', ty, hc', ht⟩ := HRW2.out.tys ho
                      rw [hc] at hc'
                      simp at hc'
                      obtain ⟨_, rfl⟩ := hc'
                      simp at ht
                    · rcases ho with ho | ⟨cur', ty, hc', ht⟩
                      · have := H.out.low
                        have := HDL.out
                        omega
                      · rw [hc] at hc'
                        simp at hc'
                        obtain ⟨_, rfl⟩ := hc'
                        simp at ht
                  · have h1 := HROW7.out
                    have h2 : (rs2 ++ [(⟨q0.pk, r, (s0.2.2.2.1 : Int), dv, 0, q0.ord⟩ : Rp)]).length = rs2.length + 1 := by simp
                    have h3 : (rs2 ++ [(⟨q0.pk, r, (s0.2.2.2.1 : Int), dv, 0, q0.ord⟩ : Rp)]).flatMap encR = rs2.flatMap encR ++ encR ⟨q0.pk, r, (s0.2.2.2.1 : Int), dv, 0, q0.ord⟩ := by simp
                    rw [h2, h3]
                    exact h1
                  · refine All2.snoc (HOUT.out.ans.mono fun x y hh => ⟨hh.1, hh.2.1, hh.2.2.1, hh.2.2.2.1, hh.2.2.2.2.1, hh.2.2.2.2.2.stays (.inl rfl) hst⟩) ⟨rfl, rfl, ?_, rfl, rfl, HD7.out⟩
                    show ((s0.2.2.2.1 : Nat) : Int) = _
                    rw [HXL.out]
                  · refine (HT2.out.trans (HT2'.out.mono fun k _ e => .inl e)).andThen HTW.out fun k hk e => ?_
                    have h1 := (HU.out k e).1
                    omega
                  · rw [← HM1.out]; exact e1.symm
                  · rw [← HM2.out, e2]; simp
                  · have h1 := HM3.out
                    rw [HW.out] at h1
                    simp at h1 ⊢
                    omega
                case measure =>
                  have h1 := HM3.out
                  rw [HW.out] at h1
                  have h2 := HOUT.out.ans.1
                  obtain ⟨A, c, e⟩ := own_form HOUT.out.row
                  rw [e]
                  simp only [rowLen]
                  simp at h1
                  omega
end Go.Proofs.Ytkdnkjjnmadhgaa.Dev
