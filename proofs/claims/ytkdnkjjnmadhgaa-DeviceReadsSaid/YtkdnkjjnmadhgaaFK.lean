import Derived.Test.YtkdnkjjnmadhgaaFJ
/-! DeviceLines, the plain law: what comes of the plan. -/
namespace Go.Proofs.Ytkdnkjjnmadhgaa.Dev

/-- The reply to a receive. -/
def isRec (o : Ans) : Bool := decide (o.1.do_ = 1)
def Sorted (l : List Ans) : Prop := l.Pairwise (fun a b => ansLe a b = true)
theorem sorted_snoc {l : List Ans} {x : Ans} (h : Sorted l) (hx : ∀ a ∈ l, ansLe a x = true) : Sorted (l ++ [x]) := by
  unfold Sorted
  rw [List.pairwise_append]
  exact ⟨h, List.pairwise_singleton _ _, fun a ha b hb => by rw [List.mem_singleton.1 hb]; exact hx a ha⟩
/-- A new last receive is the last of the receives. -/
theorem rec_last {l : List Ans} {x : Ans} (h : Sorted l) (hr : isRec x = true) (hx : ∀ a ∈ l, isRec a = true → ansLe a x = true) (hu : ∀ a ∈ l ++ [x], ∀ b ∈ l ++ [x], a.1.ord = b.1.ord → a = b) : (sortA (l ++ [x])).filter isRec = l.filter isRec ++ [x] := by
  have e1 : (l ++ [x]).filter isRec = l.filter isRec ++ [x] := by rw [List.filter_append]; simp [hr]
  refine ans_one (((sortA_perm _).filter isRec).trans (by rw [e1])) ((sortA_sorted _).filter _) (sorted_snoc (List.Pairwise.filter _ h) fun a ha => ?_) fun a ha b hb => ?_
  · obtain ⟨h1, h2⟩ := List.mem_filter.1 ha
    exact hx a h1 h2
  · exact hu a ((sortA_perm _).mem_iff.1 (List.mem_filter.1 ha).1) b ((sortA_perm _).mem_iff.1 (List.mem_filter.1 hb).1)
/-- Another reply leaves the receives. -/
theorem rec_same {l : List Ans} {x : Ans} (h : Sorted l) (hr : isRec x = false) (hu : ∀ a ∈ l ++ [x], ∀ b ∈ l ++ [x], a.1.ord = b.1.ord → a = b) : (sortA (l ++ [x])).filter isRec = l.filter isRec := by
  have e1 : (l ++ [x]).filter isRec = l.filter isRec := by rw [List.filter_append]; simp [hr]
  refine ans_one (((sortA_perm _).filter isRec).trans (by rw [e1])) ((sortA_sorted _).filter _) (List.Pairwise.filter _ h) fun a ha b hb => ?_
  exact hu a ((sortA_perm _).mem_iff.1 (List.mem_filter.1 ha).1) b ((sortA_perm _).mem_iff.1 (List.mem_filter.1 hb).1)
theorem sortA_of_sorted {l : List Ans} (h : Sorted l) (hu : ∀ a ∈ l, ∀ b ∈ l, a.1.ord = b.1.ord → a = b) : sortA l = l :=
  ans_one (sortA_perm l) (sortA_sorted l) h fun a ha b hb => hu a ((sortA_perm l).mem_iff.1 ha) b ((sortA_perm l).mem_iff.1 hb)

/-- The plan's requests: the messages, then the receives. -/
def lineRq (ms : List (Sl × List Value)) (i : Nat) : Int × Int × Int × Int × Sl :=
  match ms[i]? with
  | some m => (1000 + i, 2, 0, 0, m.1)
  | none => ((i : Int) - ms.length, 1, 0, 0, (none, 0, 0))
def lineDat (ms : List (Sl × List Value)) (i : Nat) : List Value :=
  match ms[i]? with
  | some m => m.2
  | none => []
def lineSend (ms : List (Sl × List Value)) (i : Nat) (s : LS) : LS :=
  sendS s ((i / 3 : Nat) : Int) (lineRq ms i).1 (lineRq ms i).2.1 (lineRq ms i).2.2.1 (lineRq ms i).2.2.2.1 (lineRq ms i).2.2.2.2 (lineDat ms i)
/-- Behind i requests and k looks. -/
structure LR (ms : List (Sl × List Value)) (lk : Nat → Int) (i k : Nat) (s : LS) (os : List Ans) : Prop where
  sent : s.sent = i
  told : s.told = os.length
  now0 : 0 ≤ s.now
  now : s.now ≤ (((i - 1) / 3 : Nat) : Int) ∨ ∃ k', k' < k ∧ s.now = lk k' ∧ lk k' ≤ ((i / 3 : Nat) : Int)
  lost : s.pl.lost = []
  plsent : s.pl.sent = (min i ms.length : Nat)
  free0 : 0 ≤ s.pl.free
  free1 : s.pl.free ≤ 100 + 10 * i
  recv : s.pl.recv ≤ 100 + 10 * i
  mat : ∀ m ∈ s.pl.msgs, m.1 ≤ 100 + 10 * i
  msgs : s.pl.msgs.map (·.2) = ((ms.take i).drop (i - ms.length)).map (·.2)
  wait : s.pl.wait.length = i - ms.length - ms.length
  some_ : s.pl.wait = [] ∨ s.pl.msgs = []
  recs : ((os ++ s.pend).filter isRec).map (fun o => (o.1.pk, o.2.2.1, o.2.2.2)) = (ms.take (i - ms.length)).mapIdx fun c m => ((c : Int), (m.2.length : Int), m.2)
  recAt : ∀ o ∈ os ++ s.pend, isRec o = true → o.2.1 ≤ s.pl.recv
  sends : ∀ o ∈ os ++ s.pend, isRec o = false → 1000 ≤ o.1.pk
  ords : ∀ o ∈ os ++ s.pend, 0 ≤ o.1.ord ∧ o.1.ord < i
  uniq : (os ++ s.pend).Pairwise (fun a b => a.1.ord ≠ b.1.ord)
  len : (os ++ s.pend).length = min i ms.length + min (i - ms.length) ms.length
  ats : ∀ o ∈ s.pend, o.2.1 ≤ 100 + 10 * i
  sort : Sorted s.pend
end Go.Proofs.Ytkdnkjjnmadhgaa.Dev
