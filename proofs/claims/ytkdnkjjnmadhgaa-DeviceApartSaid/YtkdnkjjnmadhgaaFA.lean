import Derived.Test.YtkdnkjjnmadhgaaDL
set_option linter.unusedVariables false
set_option linter.unusedSimpArgs false
/-! A line in memory; nothing to sort. -/
namespace Go.Proofs.Ytkdnkjjnmadhgaa.Dev
open Go.RowKit Go.Maps Go.Lib

set_option maxRecDepth 100000 in
theorem ins_nil (w : World) (v f : Value) : Calls Try.prog 70 #[v, .int .i64 0, .int .i64 0, f] w fun e w' => e = .returned (.tuple #[]) ∧ w' = w := by
  go_enter Try.func70, Try.ntmps70
  go_wp2_with fail
  go_loopw [8] (fun i wr => i = .int .i64 1 ∧ wr = w) (fun _ _ => 0)
  case atStart => exact ⟨rfl, rfl⟩
  case round =>
    obtain ⟨rfl, rfl⟩ := hrel
    go_wp2_with fail
    go_end0
    exact ⟨rfl, rfl⟩
set_option maxHeartbeats 400000 in
set_option maxRecDepth 100000 in
theorem stable_nil (w : World) (v f : Value) : Calls Try.prog 61 #[v, .int .i64 0, f] w fun e w' => e = .returned (.tuple #[]) ∧ w' = w := by
  have C := Lib.hid (fun w' => ins_nil w' v f)
  go_enter Try.func61, Try.ntmps61
  go_wp2_with fail
  go_loopw [7, 8] (fun k i wr => k = .int .i64 0 ∧ i = .int .i64 20 ∧ wr = w) (fun _ _ _ => 0)
  case atStart => exact ⟨rfl, rfl, rfl⟩
  case round =>
    obtain ⟨rfl, rfl, rfl⟩ := hrel
    go_wp2_with (go_at_call 70; (with_reducible refine (C.out _).mono ?_); rintro e w' ⟨rfl, hw'⟩; subst hw')
    go_loopw [6] (fun i wx => i = .int .i64 20 ∧ wx = w') (fun _ _ => 0)
    case atStart => exact ⟨rfl, rfl⟩
    case round =>
      obtain ⟨rfl, rfl⟩ := hrel
      go_wp2_with fail
      go_end0
      exact ⟨rfl, rfl⟩
set_option maxRecDepth 100000 in
theorem sort_nil (w : World) (A : Option Addr) (c : Nat) (f : Value) : Calls Try.prog 43 #[.slice A 0 c, f] w fun e w' => e = .returned (.tuple #[]) ∧ w' = w := by
  have C := Lib.hid (stable_nil w (.slice A 0 c) f)
  go_enter Try.func43, Try.ntmps43
  go_wp2_with (go_at_call 61; (refine (C.out).mono ?_); rintro e w' ⟨rfl, hw'⟩; subst hw')
  go_end0
  exact ⟨rfl, rfl⟩

/-- A line's slices. -/
structure LM where
  vl : Sl
  vm : Sl
  vq : Sl
  sm : List (Int × Int × Sl)
/-- A line. -/
structure PL where
  lost : List Int
  sent : Int
  free : Int
  msgs : List (Int × List Value)
  wait : List Rq
  recv : Int
structure LRep (B : Nat) (w : World) (d : Nat) (m : LM) (p : PL) : Prop where
  low : B ≤ d
  cells : w.heap[d]? = some (.cells #[slv m.vl, .int .i64 p.sent, .int .i64 p.free, slv m.vm, slv m.vq, .int .i64 p.recv] 128 (0, 0))
  rm : RowO w B 116 3 (slv m.vm) m.sm.length (m.sm.flatMap encW)
  rq : RowO w B 99 7 (slv m.vq) p.wait.length (p.wait.flatMap encQ)
  hm : All2 (fun s x => s.1 = x.1 ∧ Held B 5 w s.2.2 x.2) m.sm p.msgs
  hl : Held B 3 w m.vl (ints p.lost)
/-- The blocks that a line may write. -/
def OwnL (d : Nat) (m : LM) (k : Nat) : Prop := k = d ∨ oblock (slv m.vm) = some k ∨ oblock (slv m.vq) = some k
section
variable {B : Nat} {w w' : World} {d : Nat} {m : LM} {p : PL}
theorem LRep.tys (h : LRep B w d m p) {k : Nat} (hk : OwnL d m k) : B ≤ k ∧ ∃ cur ty, w.heap[k]? = some (.cells cur ty (0, 0)) ∧ (ty = 128 ∨ ty = 116 ∨ ty = 99) := by
  rcases hk with rfl | hk | hk
  · exact ⟨h.low, _, _, h.cells, .inl rfl⟩
  · obtain ⟨hb, cur, hh⟩ := h.rm.block hk
    exact ⟨hb, _, _, hh, .inr (.inl rfl)⟩
  · obtain ⟨hb, cur, hh⟩ := h.rq.block hk
    exact ⟨hb, _, _, hh, .inr (.inr rfl)⟩
/-- The line stays while its blocks, and what nobody writes, stay. -/
theorem LRep.set (h : LRep B w d m p) (sent free recv : Int) (hc : w'.heap[d]? = some (.cells #[slv m.vl, .int .i64 sent, .int .i64 free, slv m.vm, slv m.vq, .int .i64 recv] 128 (0, 0)))
    (hk : ∀ k, k < w.heap.size → k ≠ d → (OwnL d m k ∨ Still B w k) → w'.heap[k]? = w.heap[k]?) : LRep B w' d m { p with sent := sent, free := free, recv := recv } := by
  have hs : ∀ k, k < w.heap.size → Still B w k → w'.heap[k]? = w.heap[k]? := fun k hl hs => hk k hl (fun e => by
    subst e
    rcases hs with hs | ⟨cur, ty, hc', ht⟩
    · have := h.low
      omega
    · rw [h.cells] at hc'
      simp at hc'
      obtain ⟨_, rfl⟩ := hc'
      simp at ht) (.inr hs)
  have hne : ∀ {k : Nat} {cur : Array Value} {ty : TypeId}, w.heap[k]? = some (.cells cur ty (0, 0)) → ty ≠ 128 → k ≠ d := fun hc' ht e => by
    subst e
    rw [h.cells] at hc'
    simp at hc'
    exact ht hc'.2.symm
  refine ⟨h.low, hc, h.rm.keep fun g hg hl => hk g hl ?_ (.inl (.inr (.inl hg))), h.rq.keep fun g hg hl => hk g hl ?_ (.inl (.inr (.inr hg))), h.hm.mono fun _ _ hh => ⟨hh.1, hh.2.stays (.inl rfl) hs⟩, h.hl.stays (.inr rfl) hs⟩
  · obtain ⟨_, cur, hh⟩ := h.rm.block hg
    exact hne hh (by decide)
  · obtain ⟨_, cur, hh⟩ := h.rq.block hg
    exact hne hh (by decide)
theorem LRep.keep (h : LRep B w d m p) (hk : ∀ k, k < w.heap.size → (OwnL d m k ∨ Still B w k) → w'.heap[k]? = w.heap[k]?) : LRep B w' d m p :=
  h.set p.sent p.free p.recv ((hk d (blt h.cells) (.inl (.inl rfl))).trans h.cells) fun k hl _ ho => hk k hl ho
theorem LRep.vmn (h : LRep B w d m p) : m.vm.2.1 = m.sm.length := by
  obtain ⟨a, c, e⟩ := h.rm.form
  injection e
theorem LRep.vqn (h : LRep B w d m p) : m.vq.2.1 = p.wait.length := by
  obtain ⟨a, c, e⟩ := h.rq.form
  injection e
theorem LRep.all (h : LRep B w d m p) : w.cell? ⟨d, 0, none⟩ = some (.slice m.vl.1 m.vl.2.1 m.vl.2.2) ∧ w.cell? ⟨d, 1, none⟩ = some (.int .i64 p.sent) ∧ w.cell? ⟨d, 2, none⟩ = some (.int .i64 p.free) ∧ w.cell? ⟨d, 3, none⟩ = some (.slice m.vm.1 m.vm.2.1 m.vm.2.2) ∧ w.cell? ⟨d, 4, none⟩ = some (.slice m.vq.1 m.vq.2.1 m.vq.2.2) ∧ w.cell? ⟨d, 5, none⟩ = some (.int .i64 p.recv) :=
  ⟨(cell_of h.cells 0).trans rfl, (cell_of h.cells 1).trans rfl, (cell_of h.cells 2).trans rfl, (cell_of h.cells 3).trans rfl, (cell_of h.cells 4).trans rfl, (cell_of h.cells 5).trans rfl⟩
theorem LRep.frees (h : LRep B w d m p) (j : Nat) : w.frozen? ⟨d, j, none⟩ = false := free_of h.cells j
end
/-- Messages meet receives. -/
def matchF : Int → List Rq → List (Int × List Value) → Int × List Rq × List (Int × List Value) × List (Rq × Int × List Value)
  | rc, q :: qs, m :: ms => let r := max (max rc q.at_) m.1; let x := matchF r qs ms; (x.1, x.2.1, x.2.2.1, (q, r, m.2) :: x.2.2.2)
  | rc, qs, ms => (rc, qs, ms, [])
end Go.Proofs.Ytkdnkjjnmadhgaa.Dev
