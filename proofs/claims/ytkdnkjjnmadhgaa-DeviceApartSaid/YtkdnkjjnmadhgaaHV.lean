import Derived.Test.YtkdnkjjnmadhgaaHT
import Derived.Test.YtkdnkjjnmadhgaaHQ
set_option linter.unusedVariables false
set_option linter.unusedSimpArgs false
/-! DeviceApart without memory: the requests to one device alone. -/
namespace Go.Proofs.Ytkdnkjjnmadhgaa.Dev
open Go.RowKit Go.Maps Go.Lib

/-- Requests in another order's numbers. -/
def ordF (f : Int → Int) (q : Rq) : Rq := { q with ord := f q.ord }
def ansF (f : Int → Int) (o : Ans) : Ans := (ordF f o.1, o.2)
def plF (f : Int → Int) (p : PL) : PL := { p with wait := p.wait.map (ordF f) }
def devM (f : Int → Int) : PDv → PDv
  | .line p => .line (plF f p)
  | p => p
theorem matchF_ordF (f : Int → Int) : ∀ (rc : Int) (ws : List Rq) (l : List (Int × List Value)), matchF rc (ws.map (ordF f)) l = ((matchF rc ws l).1, (matchF rc ws l).2.1.map (ordF f), (matchF rc ws l).2.2.1, (matchF rc ws l).2.2.2.map fun y => (ordF f y.1, y.2))
  | rc, [], l => by simp [matchF]
  | rc, w :: ws, [] => by simp [matchF]
  | rc, w :: ws, m :: l => by
    have h := matchF_ordF f (max (max rc w.at_) m.1) ws l
    rw [List.map_cons]
    simp only [matchF]
    have e : (ordF f w).at_ = w.at_ := rfl
    rw [e, h]
    rfl
theorem addF_ordF (f : Int → Int) (p : PL) (q : Rq) (d : List Value) : addF (plF f p) (ordF f q) d = (plF f (addF p q d).1, (addF p q d).2.map (ansF f)) := by
  unfold addF
  have e : (ordF f q).do_ = q.do_ := rfl
  rw [e]
  split
  · simp [plF]
  · rfl
theorem meetF_ordF (f : Int → Int) (p : PL) : meetF (plF f p) = (plF f (meetF p).1, (meetF p).2.map (ansF f)) := by
  unfold meetF
  have h := matchF_ordF f p.recv p.wait p.msgs
  simp only [plF]
  rw [h]
  simp only [List.map_map]
  rfl
theorem lineF_ordF (f : Int → Int) (p : PL) (q : Rq) (d : List Value) : lineF (plF f p) (ordF f q) d = (plF f (lineF p q d).1, (lineF p q d).2.map (ansF f)) := by
  unfold lineF
  rw [addF_ordF]
  dsimp only
  rw [meetF_ordF]
  simp only [List.map_append]
theorem devF_ordF (f : Int → Int) (p : PDv) (q : Rq) (d : List Value) : devF (devM f p) (ordF f q) d = (devM f (devF p q d).1, (devF p q d).2.map (ansF f)) := by
  cases p with
  | clock => rfl
  | disk p => rfl
  | term p => rfl
  | line p =>
    by_cases hl : q.do_ = 2 ∧ 64 < d.length
    · have e1 : devF (.line p) q d = (.line p, [(q, q.at_, -3, [])]) := if_pos hl
      have e2 : devF (.line (plF f p)) (ordF f q) d = (.line (plF f p), [(ordF f q, q.at_, -3, [])]) := if_pos hl
      show devF (.line (plF f p)) (ordF f q) d = _
      rw [e1, e2]; rfl
    · have e1 : devF (.line p) q d = (.line (lineF p q d).1, (lineF p q d).2) := if_neg hl
      have e2 : devF (.line (plF f p)) (ordF f q) d = (.line (lineF (plF f p) (ordF f q) d).1, (lineF (plF f p) (ordF f q) d).2) := if_neg hl
      show devF (.line (plF f p)) (ordF f q) d = _
      rw [e1, e2, lineF_ordF]; rfl
def ansDF (f : Int → Int) (o : AnsD) : AnsD := (o.1, ansF f o.2)
/-- A bus, and one to which the requests to one device alone were handed in. -/
structure ApartG (f : Int → Int) (dev : Int) (g g' : GB) : Prop where
  own_ : 1 ≤ dev → ∀ p, g.ds[(dev - 1).toNat]? = some p → g'.ds[(dev - 1).toNat]? = some (devM f p)
  len : g'.ds.length = g.ds.length
  all : g'.all = (g.all.filter fun o => o.1 == dev).map (ansDF f)
  now : g'.now ≤ g.now
  sent : (g'.sent : Int) = f g.sent
theorem mostDo_devM (f : Int → Int) (p : PDv) : mostDo (devM f p) = mostDo p := by cases p <;> rfl
theorem ApartG.own {f : Int → Int} {g g' : GB} {x : PE} (h : ApartG f x.dev g g') (hok : OkX g x) (hf : f (g.sent + 1) = f g.sent + 1) : OkX g' x ∧ ApartG f x.dev (stepG g x) (stepG g' x) := by
  obtain ⟨p, hp, h1, h2, e⟩ := hok.get
  have hd1 := hok.1.1
  have hp' := h.own_ hd1 p hp
  have hok' : OkX g' x := by
    refine ⟨⟨hd1, by rw [h.len]; exact hok.1.2⟩, Int.le_trans h.now hok.2.1, hok.2.2.1, fun p' hp2 => ?_, hok.2.2.2.2⟩
    have : p' = devM f p := by rw [hp'] at hp2; injection hp2 with hp2; exact hp2.symm
    rw [this, mostDo_devM]
    exact ⟨h1, h2⟩
  obtain ⟨p', hp2, _, _, e'⟩ := hok'.get
  obtain rfl : p' = devM f p := by rw [hp'] at hp2; injection hp2 with hp2; exact hp2.symm
  have hq : rqX x g'.sent = ordF f (rqX x g.sent) := by
    unfold rqX ordF
    rw [h.sent]
  refine ⟨hok', ?_⟩
  rw [e, e', hq]
  unfold sendG
  rw [devF_ordF]
  have hlt : (x.dev - 1).toNat < g.ds.length := (List.getElem?_eq_some_iff.1 hp).1
  refine ⟨fun _ q hq' => ?_, by show (g'.ds.set _ _).length = (g.ds.set _ _).length; rw [List.length_set, List.length_set, h.len], ?_, Int.le_refl _, ?_⟩
  · have hq' : (g.ds.set (x.dev - 1).toNat _)[(x.dev - 1).toNat]? = some q := hq'
    rw [List.getElem?_set_self hlt] at hq'
    injection hq' with hq'
    subst hq'
    show (g'.ds.set (x.dev - 1).toNat _)[(x.dev - 1).toNat]? = _
    rw [List.getElem?_set_self (by rw [h.len]; exact hlt)]
  · show g'.all ++ _ = ((g.all ++ _).filter _).map (ansDF f)
    rw [List.filter_append, List.map_append, h.all]
    congr 1
    have hall : ∀ o ∈ (devF p (rqX x g.sent) (bytes x.q.data)).2.map (fun o => ((((x.dev - 1).toNat : Int)) + 1, o)), (o.1 == x.dev) = true := fun o ho => by
      obtain ⟨y, _, rfl⟩ := List.mem_map.1 ho
      simp; omega
    rw [List.filter_eq_self.2 hall, List.map_map, List.map_map]
    rfl
  · show ((g'.sent + 1 : Nat) : Int) = f ((g.sent + 1 : Nat) : Int)
    have e3 : ((g.sent + 1 : Nat) : Int) = (g.sent : Int) + 1 := by omega
    rw [e3, hf, ← h.sent]
    omega
theorem ApartG.other {f : Int → Int} {dev : Int} {g g' : GB} {x : PE} (h : ApartG f dev g g') (hok : OkX g x) (hne : x.dev ≠ dev) (hf : f (g.sent + 1) = f g.sent) : ApartG f dev (stepG g x) g' := by
  obtain ⟨p, hp, h1, h2, e⟩ := hok.get
  have hd1 := hok.1.1
  rw [e]
  refine ⟨fun hd q hq' => h.own_ hd q ?_, h.len.trans (List.length_set).symm, ?_, Int.le_trans h.now hok.2.1, ?_⟩
  · have hq' : (g.ds.set (x.dev - 1).toNat _)[(dev - 1).toNat]? = some q := hq'
    rwa [List.getElem?_set_ne (by omega)] at hq'
  · show g'.all = ((g.all ++ _).filter _).map (ansDF f)
    rw [List.filter_append]
    have hall : (((devF p (rqX x g.sent) (bytes x.q.data)).2.map (fun o => ((((x.dev - 1).toNat : Int)) + 1, o))).filter fun o => o.1 == dev) = [] := by
      rw [List.filter_eq_nil_iff]
      intro o ho
      obtain ⟨y, _, rfl⟩ := List.mem_map.1 ho
      simp; omega
    rw [hall, List.append_nil]
    exact h.all
  · show (g'.sent : Int) = f ((g.sent + 1 : Nat) : Int)
    have e3 : ((g.sent + 1 : Nat) : Int) = (g.sent : Int) + 1 := by omega
    rw [e3, hf, ← h.sent]
/-- Every request is taken, from a state on. -/
def OkR : GB → List PE → Prop
  | _, [] => True
  | g, x :: xs => OkX g x ∧ OkR (stepG g x) xs
theorem OkRun.toR : ∀ {xs : List PE} {g : GB}, OkRun g xs → OkR g xs
  | [], _, _ => trivial
  | x :: xs, g, h => ⟨h 0 x rfl, OkRun.toR fun i y hy => h (i + 1) y (by simpa using hy)⟩
theorem OkR.toRun : ∀ {xs : List PE} {g : GB}, OkR g xs → OkRun g xs
  | [], _, _, i, y, hy => by simp at hy
  | x :: xs, g, h, 0, y, hy => by
    simp only [List.getElem?_cons_zero, Option.some.injEq] at hy
    subst hy
    exact h.1
  | x :: xs, g, h, i + 1, y, hy => OkR.toRun h.2 i y (by simpa using hy)
theorem apart_run {f : Int → Int} {dev : Int} : ∀ {xs : List PE} {g g' : GB}, ApartG f dev g g' → OkR g xs → (∀ (i : Nat) x, xs[i]? = some x → f ((g.sent : Int) + i + 1) = f ((g.sent : Int) + i) + if x.dev = dev then 1 else 0) →
    OkR g' (xs.filter fun x => x.dev == dev) ∧ ApartG f dev (runG g xs) (runG g' (xs.filter fun x => x.dev == dev))
  | [], g, g', h, _, _ => ⟨trivial, h⟩
  | x :: xs, g, g', h, hok, hf => by
    have h0 := hf 0 x rfl
    have h0 : f ((g.sent : Int) + 1) = f (g.sent : Int) + if x.dev = dev then 1 else 0 := by simpa using h0
    have hs := stepG_sent hok.1
    have hf' : ∀ (i : Nat) y, xs[i]? = some y → f (((stepG g x).sent : Int) + i + 1) = f (((stepG g x).sent : Int) + i) + if y.dev = dev then 1 else 0 := fun i y hy => by
      have := hf (i + 1) y (by simpa using hy)
      rw [hs]
      rw [show ((g.sent + 1 : Nat) : Int) + i = (g.sent : Int) + ((i + 1 : Nat) : Int) by omega]
      exact this
    by_cases hd : x.dev = dev
    · subst hd
      rw [if_pos rfl] at h0
      obtain ⟨h1, h2⟩ := h.own hok.1 h0
      rw [List.filter_cons_of_pos (by simp)]
      obtain ⟨h3, h4⟩ := apart_run h2 hok.2 hf'
      exact ⟨⟨h1, h3⟩, h4⟩
    · rw [if_neg hd] at h0
      rw [List.filter_cons_of_neg (by simpa using hd)]
      exact apart_run (h.other hok.1 hd (by omega)) hok.2 hf'
theorem while_filter {T : Int} : ∀ {l : List AnsD}, l.Pairwise (fun a b => ansG a b = true) → l.takeWhile (fun o => decide (o.2.2.1 ≤ T)) = l.filter (fun o => decide (o.2.2.1 ≤ T))
  | [], _ => rfl
  | x :: l, h => by
    obtain ⟨h1, h2⟩ := List.pairwise_cons.1 h
    by_cases hx : x.2.2.1 ≤ T
    · rw [List.takeWhile_cons_of_pos (by simpa using hx), List.filter_cons_of_pos (by simpa using hx), while_filter h2]
    · rw [List.takeWhile_cons_of_neg (by simpa using hx), List.filter_cons_of_neg (by simpa using hx)]
      symm
      rw [List.filter_eq_nil_iff]
      intro y hy
      have := h1 y hy
      unfold ansG at this
      rw [decide_eq_true_iff] at this
      simp; omega
theorem outG_filter (g : GB) (T : Int) : outG g T = (sortG g.all).filter (fun o => decide (o.2.2.1 ≤ T)) := while_filter (sortG_sorted _)
/-- The replies alone are those of the device. -/
theorem apart_out {f : Int → Int} {dev : Int} {g g' : GB} (h : ApartG f dev g g') (hi : GInv g') (hf : ∀ a b, a ≤ b → f a ≤ f b) (T : Int) : outG g' T = ((outG g T).filter fun o => o.1 == dev).map (ansDF f) := by
  have e : sortG g'.all = ((sortG g.all).filter fun o => o.1 == dev).map (ansDF f) := by
    have hp : (sortG g'.all).Perm (((sortG g.all).filter fun o => o.1 == dev).map (ansDF f)) := by
      refine (sortG_perm _).trans ?_
      rw [h.all]
      exact (((sortG_perm g.all).filter _).map _).symm
    refine ansG_one hp (sortG_sorted _) ?_ fun a ha b hb => hi.one a ((sortG_perm _).mem_iff.1 ha) b ((sortG_perm _).mem_iff.1 hb)
    rw [List.pairwise_map]
    refine List.Pairwise.imp_of_mem (fun {a b} ha hb hab => ?_) ((sortG_sorted g.all).filter _)
    have h1 := (List.mem_filter.1 ha).2
    have h2 := (List.mem_filter.1 hb).2
    have h1 : a.1 = dev := by simpa using h1
    have h2 : b.1 = dev := by simpa using h2
    unfold ansG at hab ⊢
    rw [decide_eq_true_iff] at hab ⊢
    show a.2.2.1 < b.2.2.1 ∨ (a.2.2.1 = b.2.2.1 ∧ (a.1 < b.1 ∨ (a.1 = b.1 ∧ f a.2.1.ord ≤ f b.2.1.ord)))
    rcases hab with h3 | ⟨h3, h4 | ⟨h4, h5⟩⟩
    · exact .inl h3
    · omega
    · exact .inr ⟨h3, .inr ⟨h4, hf _ _ h5⟩⟩
  rw [outG_filter, outG_filter, e, List.filter_map, List.filter_filter, List.filter_filter]
  congr 1
  apply List.filter_congr
  intro o _
  exact Bool.and_comm _ _
/-- What is so of each request that comes is so of each that is answered, and of each that waits. -/
def LabG (Lab : Int → Rq → Prop) (g : GB) : Prop := (∀ o ∈ g.all, Lab o.1 o.2.1) ∧ ∀ (j : Nat) p, g.ds[j]? = some p → ∀ q ∈ waitQ p, Lab ((j : Int) + 1) q
theorem LabG.step {Lab : Int → Rq → Prop} {g : GB} (h : LabG Lab g) {x : PE} (hok : OkX g x) (hx : Lab x.dev (rqX x g.sent)) : LabG Lab (stepG g x) := by
  obtain ⟨p, hp, h1, h2, e⟩ := hok.get
  have hd1 := hok.1.1
  rw [e]
  have hi : (((x.dev - 1).toNat : Int)) + 1 = x.dev := by omega
  have hq := devF_rqs p (rqX x g.sent) (bytes x.q.data)
  have key : ∀ q, q ∈ (devF p (rqX x g.sent) (bytes x.q.data)).2.map (·.1) ++ waitQ (devF p (rqX x g.sent) (bytes x.q.data)).1 → Lab x.dev q := fun q hm => by
    rcases List.mem_append.1 (hq.mem_iff.1 hm) with hm | hm
    · have := h.2 _ p hp q hm
      rwa [hi] at this
    · rw [List.mem_singleton.1 hm]; exact hx
  refine ⟨fun o ho => ?_, fun j p' hj q hm => ?_⟩
  · have ho : o ∈ g.all ++ (devF p (rqX x g.sent) (bytes x.q.data)).2.map _ := ho
    rcases List.mem_append.1 ho with ho | ho
    · exact h.1 o ho
    · obtain ⟨y, hy, rfl⟩ := List.mem_map.1 ho
      show Lab ((((x.dev - 1).toNat : Int)) + 1) y.1
      rw [hi]
      exact key _ (List.mem_append.2 (.inl (List.mem_map.2 ⟨y, hy, rfl⟩)))
  · have hj : (g.ds.set (x.dev - 1).toNat _)[j]? = some p' := hj
    by_cases hij : (x.dev - 1).toNat = j
    · subst hij
      rw [List.getElem?_set_self (List.getElem?_eq_some_iff.1 hp).1] at hj
      injection hj with hj
      subst hj
      rw [hi]
      exact key _ (List.mem_append.2 (.inr hm))
    · rw [List.getElem?_set_ne hij] at hj
      exact h.2 j p' hj q hm
theorem LabG.run {Lab : Int → Rq → Prop} : ∀ {xs : List PE} {g : GB}, LabG Lab g → OkR g xs → (∀ (i : Nat) x, xs[i]? = some x → Lab x.dev (rqX x ((g.sent : Int) + (i : Int)))) → LabG Lab (runG g xs)
  | [], _, h, _, _ => h
  | x :: xs, g, h, hok, hx => by
    show LabG Lab (runG (stepG g x) xs)
    have h0 : Lab x.dev (rqX x g.sent) := by have := hx 0 x rfl; simpa using this
    refine LabG.run (xs := xs) (g := stepG g x) (h.step hok.1 h0) hok.2 fun i y hy => ?_
    have := hx (i + 1) y (by simpa using hy)
    rw [stepG_sent hok.1]
    rw [show ((g.sent + 1 : Nat) : Int) + (i : Int) = (g.sent : Int) + ((i + 1 : Nat) : Int) by omega]
    exact this
end Go.Proofs.Ytkdnkjjnmadhgaa.Dev
/-! handed (f17) at any devices. -/
namespace Go.Proofs.Ytkdnkjjnmadhgaa.Dev
open Go.RowKit Go.Maps Go.Lib

def pe0 : PE := ⟨0, 0, ⟨0, 0, 0, 0, (none, 0, 0), []⟩⟩
def pe (xs : List PE) (i : Nat) : PE := xs.getD i pe0
theorem pe_get {xs : List PE} {i : Nat} (h : i < xs.length) : xs[i]? = some (pe xs i) := by
  unfold pe
  rw [List.getD_eq_getElem?_getD, List.getElem?_eq_getElem h]; rfl
def rq5 (x : PE) : Int × Int × Int × Int × Sl := (x.q.pk, x.q.do_, x.q.a_, x.q.b_, x.q.dv)
/-- A plan of requests in memory. -/
def PlanX (w : World) (Ar Ad At : Option Addr) (xs : List PE) : Prop := PlanAtO w w.heap.size Ar Ad At xs.length (fun i => rq5 (pe xs i)) (fun i => (pe xs i).dev) (fun i => (pe xs i).at_)
/-- The devices that are built. -/
def Devs (cs : List Cf) (ds : List PDv) : Prop := All2 (fun c p => buildF c = some p) cs ds
theorem Devs.one {cs : List Cf} {ds ds' : List PDv} (h : Devs cs ds) (h' : Devs cs ds') : ds = ds' := by
  apply List.ext_getElem
  · rw [← h.1, ← h'.1]
  · intro i h1 h2
    have hi : i < cs.length := by rw [h.1]; exact h1
    have e1 := h.2 i _ _ (List.getElem?_eq_getElem hi) (List.getElem?_eq_getElem h1)
    have e2 := h'.2 i _ _ (List.getElem?_eq_getElem hi) (List.getElem?_eq_getElem h2)
    exact Option.some.inj (e1.symm.trans e2)
theorem Devs.some_ {cs : List Cf} {ds : List PDv} (h : Devs cs ds) {c : Cf} (hc : c ∈ cs) : buildF c ≠ none := fun e => by
  obtain ⟨i, hi, rfl⟩ := List.mem_iff_getElem.1 hc
  have := h.2 i _ _ (List.getElem?_eq_getElem hi) (List.getElem?_eq_getElem (by rw [← h.1]; exact hi))
  cases e.symm.trans this
theorem Devs.of {cs : List Cf} {ds : List PDv} (h : Devs cs ds) {p : PDv} (hp : p ∈ ds) : ∃ c ∈ cs, buildF c = some p := by
  obtain ⟨i, hi, rfl⟩ := List.mem_iff_getElem.1 hp
  have hi' : i < cs.length := by rw [h.1]; exact hi
  exact ⟨cs[i], List.getElem_mem _, h.2 i _ _ (List.getElem?_eq_getElem hi') (List.getElem?_eq_getElem hi)⟩
theorem devs_or : ∀ cs : List Cf, (∃ c ∈ cs, buildF c = none) ∨ ∃ ds, Devs cs ds
  | [] => .inr ⟨[], All2.nil_⟩
  | c :: cs => by
    cases hc : buildF c with
    | none => exact .inl ⟨c, by simp, hc⟩
    | some p =>
      rcases devs_or cs with ⟨c', h1, h2⟩ | ⟨ds, h⟩
      · exact .inl ⟨c', by simp [h1], h2⟩
      · refine .inr ⟨p :: ds, by simp [h.1], fun i x y hx hy => ?_⟩
        cases i with
        | zero =>
          simp only [List.getElem?_cons_zero, Option.some.injEq] at hx hy
          rw [← hx, ← hy]; exact hc
        | succ i => exact h.2 i x y (by simpa using hx) (by simpa using hy)
theorem bad_first {P : Nat → Prop} : ∀ (N : Nat), (∀ j, j < N → P j) ∨ ∃ k, k < N ∧ (∀ j, j < k → P j) ∧ ¬ P k
  | 0 => .inl fun j hj => absurd hj (by omega)
  | N + 1 => by
    rcases bad_first N (P := P) with h | ⟨k, hk, h1, h2⟩
    · by_cases hN : P N
      · exact .inl fun j hj => by
          by_cases e : j = N
          · subst e; exact hN
          · exact h j (by omega)
      · exact .inr ⟨N, by omega, h, hN⟩
    · exact .inr ⟨k, by omega, h1, h2⟩
theorem runG_now {ds : List PDv} {xs : List PE} (n : Nat) (hok : ∀ i x, i < n → xs[i]? = some x → OkX (runG (g0 ds) (xs.take i)) x) : ∀ i, i ≤ n → i ≤ xs.length → (runG (g0 ds) (xs.take i)).now ≤ 1000000000
  | 0, _, _ => by show (0 : Int) ≤ 1000000000; decide
  | i + 1, hi, hl => by
    have hx := pe_get (xs := xs) (i := i) (by omega)
    have h := hok i _ (by omega) hx
    obtain ⟨p, _, _, _, e⟩ := h.get
    rw [runG_next hx, e]
    exact h.2.2.1
theorem InCfgs.below {w w' : World} {A : Option Addr} {l : List (Cf × CfV)} (h : InCfgs w A l) (hb : Below w.heap.size w w') : InCfgs w' A l := fun h0 => by
  obtain ⟨g, off, e, hg, hc⟩ := h h0
  exact ⟨g, off, e, Nat.lt_of_lt_of_le hg hb.size, fun j x hx i u hu => (hb.cell (p := ⟨g, off + j * 6 + i, none⟩) hg).trans (hc j x hx i u hu)⟩
theorem devs_inv {w : World} {B : Nat} {l : List (Cf × CfV)} (hR : ∀ x ∈ l, CfRep B w x.2 x.1) {ds : List PDv} (hD : Devs (l.map (·.1)) ds) : GInv (g0 ds) := by
  refine ginv0 fun p hp => ?_
  obtain ⟨c, hc, hb⟩ := hD.of hp
  obtain ⟨x, hx, rfl⟩ := List.mem_map.1 hc
  exact ⟨build_inv (hR x hx) hb, build_byt hb⟩
theorem outG_few {g : GB} (h : GInv g) (T : Int) : (outG g T).length ≤ g.sent := by
  have h1 := (List.takeWhile_sublist (fun o : AnsD => decide (o.2.2.1 ≤ T)) (l := sortG g.all)).length_le
  have h2 := (sortG_perm g.all).length_eq
  have h3 := h.few
  unfold outG
  omega
theorem new_devs {w : World} {Ac : Option Addr} {cc : Nat} {l : List (Cf × CfV)} (hl : InCfgs w Ac l) (hR : ∀ x ∈ l, CfRep w.heap.size w x.2 x.1) (h5 : l.length ≤ 5) {ds : List PDv} (hD : Devs (l.map (·.1)) ds) (W : World) (hW : Below w.heap.size w W) (hs : W.heap.size = w.heap.size + 1) :
    Calls Try.prog 23 #[.slice Ac l.length cc] W fun e w' => e = .returned (.tuple #[ptr (w.heap.size + 1), .int .i64 0]) ∧ GSt w (w.heap.size + 1) (g0 ds) w' ∧ Below W.heap.size W w' := by
  refine (new_any W w.heap.size hW.size Ac cc l (hl.below hW) (fun x hx => (hR x hx).below hW) h5).mono ?_
  rintro e w' ⟨⟨_, c, hc, hno⟩ | ⟨he, ds', Ss, vd, vs, hall, hmk⟩, hb⟩
  · exact absurd hno (hD.some_ hc)
  · obtain rfl : ds = ds' := hD.one hall
    have hbw : Below w.heap.size w w' := hW.trans (hb.mono hW.size)
    rw [hs] at he hmk
    exact ⟨he, hmk.gst hbw, hb⟩
theorem handed_good (w : World) (Ac : Option Addr) (cc : Nat) (l : List (Cf × CfV)) (hl : InCfgs w Ac l) (hR : ∀ x ∈ l, CfRep w.heap.size w x.2 x.1) (h5 : l.length ≤ 5) (ds : List PDv) (hD : Devs (l.map (·.1)) ds) (xs : List PE) (hn : xs.length ≤ 60) (hok : OkRun (g0 ds) xs)
    (Ar Ad At : Option Addr) (nr nd nt : Nat) (hP : PlanX w Ar Ad At xs) (hdat : ∀ x ∈ xs, Held w.heap.size 5 w x.q.dv (bytes x.q.data)) :
    Calls Try.prog 17 #[.slice Ac l.length cc, .agg #[.slice Ar xs.length nr, .slice Ad xs.length nd, .slice At xs.length nt], .slice none 0 0] w fun e w' => ∃ v rs b, e = .returned (.tuple #[v, ptr b, .bool true]) ∧ Below w.heap.size w w' ∧ HOut w.heap.size w.heap.size w' v rs ((outG (runG (g0 ds) xs) 1000000000).map (·.2)) := by
  have hi0 : GInv (g0 ds) := devs_inv hR hD
  have hrun := ginv_run hi0 xs.length (fun i x _ hx => hok i x hx)
  have hnow := runG_now (ds := ds) xs.length (fun i x _ hx => hok i x hx)
  obtain ⟨hgi, hgs⟩ := hrun xs.length (Nat.le_refl _) (Nat.le_refl _)
  have hgn := hnow xs.length (Nat.le_refl _) (Nat.le_refl _)
  rw [List.take_length] at hgi hgs hgn
  have hg0 : (g0 ds).sent = 0 := rfl
  refine (handed_all w _ Ar Ad At xs.length nr nd nt (w.heap.size + 1) (fun i => rq5 (pe xs i)) (fun i => (pe xs i).dev) (fun i => (pe xs i).at_) hP (by omega) (fun i wr => GSt w (w.heap.size + 1) (runG (g0 ds) (xs.take i)) wr) (fun wr => Below w.heap.size w wr) ((outG (runG (g0 ds) xs) 1000000000).map (·.2)) ?_ ?_ ?_ ?_ ?_ ?_ ?_ ?_).mono ?_
  · rw [List.length_map]
    have := outG_few hgi 1000000000
    omega
  · exact fun W hW hs => new_devs hl hR h5 hD W hW hs
  · rintro s wr ⟨_, _, _, _, _, _, _, hb⟩
    exact hb
  · exact fun s wr w' h ht => h.keep ht
  · exact fun wr h => h
  · exact fun wr w' h ht => h.trans (ht.below h.size fun k hk => hk.1)
  · intro i wr hi h
    have hx := pe_get hi
    obtain ⟨h1, h2⟩ := hrun i (by omega) (by omega)
    have := gst_take h h1 (by omega) (hok i _ hx) (hdat _ (List.mem_of_getElem? hx))
    rw [← runG_next hx] at this
    exact this
  · intro wr h
    have h : GSt w (w.heap.size + 1) (runG (g0 ds) (xs.take xs.length)) wr := h
    rw [List.take_length] at h
    exact gst_until w _ _ wr h 1000000000 hgn (by have := hgi.few; omega)
  · rintro e w' ⟨v, rs, he, hb, ho⟩
    exact ⟨v, rs, _, he, hb, ho⟩
theorem handed_bad (w : World) (Ac : Option Addr) (cc : Nat) (l : List (Cf × CfV)) (hl : InCfgs w Ac l) (hR : ∀ x ∈ l, CfRep w.heap.size w x.2 x.1) (xs : List PE) (hn : xs.length ≤ 60)
    (h : 5 < l.length ∨ ∀ ds, Devs (l.map (·.1)) ds → ¬ OkRun (g0 ds) xs)
    (Ar Ad At : Option Addr) (nr nd nt : Nat) (hP : PlanX w Ar Ad At xs) (hdat : ∀ x ∈ xs, Held w.heap.size 5 w x.q.dv (bytes x.q.data)) :
    Calls Try.prog 17 #[.slice Ac l.length cc, .agg #[.slice Ar xs.length nr, .slice Ad xs.length nd, .slice At xs.length nt], .slice none 0 0] w fun e w' => e = .returned (.tuple #[.slice none 0 0, .pointer none, .bool false]) ∧ Below w.heap.size w w' := by
  by_cases h5 : 5 < l.length
  · exact handed_none w _ Ar Ad At _ _ _ nr nd nt 2 (by decide) (fun W hW hs => new_many W Ac l.length cc h5) _
  have h := h.resolve_left h5
  rcases devs_or (l.map (·.1)) with ⟨c, hc, hno⟩ | ⟨ds, hD⟩
  · refine handed_none w _ Ar Ad At _ _ _ nr nd nt 1 (by decide) (fun W hW hs => ?_) _
    refine (new_any W w.heap.size hW.size Ac cc l (hl.below hW) (fun x hx => (hR x hx).below hW) (by omega)).mono ?_
    rintro e w' ⟨⟨he, _⟩ | ⟨_, ds', _, _, _, hall, _⟩, hb⟩
    · exact ⟨he, hb⟩
    · exact absurd hno (Devs.some_ (ds := ds') hall hc)
  have hbad := h ds hD
  have hi0 : GInv (g0 ds) := devs_inv hR hD
  rcases bad_first (P := fun i => ∀ x, xs[i]? = some x → OkX (runG (g0 ds) (xs.take i)) x) xs.length with hok | ⟨k, hk, hok, hno⟩
  · refine absurd (fun i x hx => ?_) hbad
    exact hok i (List.getElem?_eq_some_iff.1 hx).1 x hx
  have hrun := ginv_run hi0 k (fun i x hi hx => hok i hi x hx)
  have hg0 : (g0 ds).sent = 0 := rfl
  have hxk := pe_get hk
  have hno' : ¬ OkX (runG (g0 ds) (xs.take k)) (pe xs k) := fun hh => hno fun x hx => by
    obtain rfl : x = pe xs k := by rw [hxk] at hx; injection hx with hx; exact hx.symm
    exact hh
  refine handed_stop w _ Ar Ad At xs.length nr nd nt (w.heap.size + 1) k (fun i => rq5 (pe xs i)) (fun i => (pe xs i).dev) (fun i => (pe xs i).at_) hP (by omega) hk (fun i wr => GSt w (w.heap.size + 1) (runG (g0 ds) (xs.take i)) wr) ?_ ?_ ?_ ?_ ?_
  · exact fun W hW hs => new_devs hl hR (by omega) hD W hW hs
  · rintro s wr ⟨_, _, _, _, _, _, _, hb⟩
    exact hb
  · exact fun s wr w' h ht => h.keep ht
  · intro i wr hi h
    have hx := pe_get (xs := xs) (i := i) (by omega)
    obtain ⟨h1, h2⟩ := hrun i (by omega) (by omega)
    have := gst_take h h1 (by omega) (hok i hi _ hx) (hdat _ (List.mem_of_getElem? hx))
    rw [← runG_next hx] at this
    exact this
  · intro wr h
    obtain ⟨h1, h2⟩ := hrun k (by omega) (by omega)
    have hd := (hdat _ (List.mem_of_getElem? hxk)).1
    exact gst_turn h (by omega) hno' (by rw [← hd]; simp [bytes])
end Go.Proofs.Ytkdnkjjnmadhgaa.Dev
