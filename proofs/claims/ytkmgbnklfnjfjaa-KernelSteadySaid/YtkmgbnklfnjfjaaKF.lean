import Derived.Test.YtkmgbnklfnjfjaaKE
/-! The kernel's memory: what it says of a plain state. -/
namespace Go.Proofs.Ytkmgbnklfnjfjaa.Ker
open Go.RowKit Go.Maps
open Go.ChangeMaps (setBlock)

/-- A task, and a packet, plainly. -/
structure T where
  pri : Int
  held : Bool
  waiting : Bool
  forr : Int
  flags : Int
structure Pk where
  ty : Int
  res : Int
  own : Int
  at_ : Int
  frm : Int
  wth : Int
/-- A kernel, plainly: tasks and packets by their numbers, the queues of tasks and devices. -/
structure A where
  tids : List Int
  tk : Int → T
  pids : List Int
  pk : Int → Pk
  q : Int → List Int
  made : Int
  calls : Int
  moves : List (Int × Int × Int × Int)
/-- Where all this lies. -/
structure G where
  tm : Nat
  dm : Nat
  pm : Nat
  tb : Int → Nat
  db : Int → Nat
  pb : Int → Nat
  qv : Int → Value

def upd {α : Type} (f : Int → α) (i : Int) (v : α) : Int → α := fun j => if j = i then v else f j
theorem upd_same {α : Type} (f : Int → α) (i : Int) (v : α) : upd f i v i = v := by simp [upd]
theorem upd_other {α : Type} (f : Int → α) {i j : Int} (v : α) (h : j ≠ i) : upd f i v j = f j := by simp [upd, h]

def tcells (i : Int) (t : T) (v : Value) : Array Value := #[.int .i64 i, .int .i64 t.pri, .bool t.held, .bool t.waiting, .int .i64 t.forr, .int .i64 t.flags, .slice none 0 0, v]
def pcells (i : Int) (p : Pk) : Array Value := #[.int .i64 i, .int .i64 p.ty, .int .i64 p.res, .int .i64 p.own, .int .i64 p.at_, .int .i64 p.frm, .int .i64 p.wth]
def mcells (m : Int × Int × Int × Int) : List Value := [.int .i64 m.1, .int .i64 m.2.1, .int .i64 m.2.2.1, .int .i64 m.2.2.2]
def devs : List Int := [-1, -2, -3, -4, -5]
/-- Who has a queue. -/
def A.owner (a : A) (i : Int) : Prop := i ∈ a.tids ∨ i ∈ devs

structure KRep (B kb : Nat) (g : G) (a : A) (w : World) : Prop where
  ker : w.heap[kb]? = some (.cells #[.map (some g.tm), .map (some g.dm), .map (some g.pm), .int .i64 a.made, g.qv 0, .int .i64 a.calls] 70 (0, 0))
  tmap : mapAt w g.tm (a.tids.map fun i => (i, g.tb i))
  dmap : mapAt w g.dm (devs.map fun i => (i, g.db i))
  pmap : mapAt w g.pm (a.pids.map fun i => (i, g.pb i))
  maps : g.tm ≠ g.dm ∧ g.tm ≠ g.pm ∧ g.dm ≠ g.pm
  task : ∀ i ∈ a.tids, w.heap[g.tb i]? = some (.cells (tcells i (a.tk i) (g.qv i)) 76 (0, 0))
  dev : ∀ i ∈ devs, w.heap[g.db i]? = some (.cells #[g.qv i] 74 (0, 0))
  dinj : ∀ i ∈ devs, ∀ j ∈ devs, g.db i = g.db j → i = j
  pack : ∀ i ∈ a.pids, w.heap[g.pb i]? = some (.cells (pcells i (a.pk i)) 44 (0, 0))
  row : ∀ i, a.owner i → w.ownsRow B 84 1 (g.qv i) (a.q i).length ((a.q i).map fun p => ptr (g.pb p))
  mrow : w.ownsRow B 31 4 (g.qv 0) a.moves.length (a.moves.flatMap mcells)
  sep : ∀ i j, i ≠ j → (i = 0 ∨ a.owner i) → (j = 0 ∨ a.owner j) → ∀ b, (g.qv i).ownBlock = some b → (g.qv j).ownBlock ≠ some b
  low : B ≤ kb ∧ B ≤ g.tm ∧ B ≤ g.dm ∧ B ≤ g.pm ∧ (∀ i ∈ a.tids, B ≤ g.tb i) ∧ (∀ i ∈ devs, B ≤ g.db i) ∧ (∀ i ∈ a.pids, B ≤ g.pb i)
  tpos : ∀ i ∈ a.tids, 0 < i

theorem own_lt {w : World} {base e sz : Nat} {v : Value} {n : Nat} {xs : List Value} {b : Nat} (h : w.ownsRow base e sz v n xs) (hb : v.ownBlock = some b) : b < w.heap.size := by
  obtain ⟨_, cur, h⟩ := own_block h hb
  exact blt h

/-- Where all old blocks are kept. -/
theorem KRep.keep {B kb : Nat} {g : G} {a : A} {w w' : World} (h : KRep B kb g a w) (hk : ∀ k, k < w.heap.size → w'.heap[k]? = w.heap[k]?) : KRep B kb g a w' where
  ker := (hk _ (blt h.ker)).trans h.ker
  tmap := h.tmap.keep (hk _ h.tmap.lt)
  dmap := h.dmap.keep (hk _ h.dmap.lt)
  pmap := h.pmap.keep (hk _ h.pmap.lt)
  maps := h.maps
  task := fun i hi => (hk _ (blt (h.task i hi))).trans (h.task i hi)
  dev := fun i hi => (hk _ (blt (h.dev i hi))).trans (h.dev i hi)
  dinj := h.dinj
  pack := fun i hi => (hk _ (blt (h.pack i hi))).trans (h.pack i hi)
  row := fun i hi => own_keep (h.row i hi) (fun b _ hb => hk b hb)
  mrow := own_keep h.mrow (fun b _ hb => hk b hb)
  sep := h.sep
  low := h.low
  tpos := h.tpos
theorem KRep.below {B kb : Nat} {g : G} {a : A} {w w' : World} (h : KRep B kb g a w) (hb : Below w.heap.size w w') : KRep B kb g a w' := h.keep hb.block

def kindOf : Obj → Nat
  | .cells _ ty _ => ty + 1
  | _ => 0
/-- A block of another kind than those that are touched is kept. -/
theorem keep_kind {w w' : World} {P : Nat → Prop} (ht : Touch w w' P) {b : Nat} {o : Obj} (h : w.heap[b]? = some o) (hk : ∀ o', P b → w.heap[b]? = some o' → kindOf o' ≠ kindOf o) : w'.heap[b]? = some o :=
  (ht.block b (blt h) (fun hp => hk o hp h rfl)).trans h
theorem ne_obj {w : World} {b b' : Nat} {o o' : Obj} (h : w.heap[b]? = some o) (h' : w.heap[b']? = some o') (hne : o ≠ o') : b ≠ b' := fun e => by subst e; rw [h] at h'; exact hne (by simpa using h')

theorem KRep.tb_inj {B kb : Nat} {g : G} {a : A} {w : World} (h : KRep B kb g a w) {i j : Int} (hi : i ∈ a.tids) (hj : j ∈ a.tids) (he : g.tb i = g.tb j) : i = j := by
  have h1 := h.task i hi
  rw [he, h.task j hj] at h1
  simp [tcells] at h1
  exact h1.1.symm
theorem KRep.pb_inj {B kb : Nat} {g : G} {a : A} {w : World} (h : KRep B kb g a w) {i j : Int} (hi : i ∈ a.pids) (hj : j ∈ a.pids) (he : g.pb i = g.pb j) : i = j := by
  have h1 := h.pack i hi
  rw [he, h.pack j hj] at h1
  simp [pcells] at h1
  exact h1.1.symm

/-- A task's block has turned. -/
theorem KRep.setTask {B kb : Nat} {g : G} {a : A} {w w' : World} (h : KRep B kb g a w) {i : Int} (hi : i ∈ a.tids) (t : T) (ht : Touch w w' (fun k => k = g.tb i)) (hb : w'.heap[g.tb i]? = some (.cells (tcells i t (g.qv i)) 76 (0, 0))) :
    KRep B kb g { a with tk := upd a.tk i t } w' := by
  have hti := h.task i hi
  have kp : ∀ {b o}, w.heap[b]? = some o → kindOf o ≠ 77 → w'.heap[b]? = some o := fun {b o} hb hk => keep_kind ht hb (fun o' hp hw => by
    subst hp
    rw [hti] at hw
    cases hw
    exact fun e => hk e.symm)
  have rk : ∀ {e sz v n xs}, w.ownsRow B e sz v n xs → e ≠ 76 → w'.ownsRow B e sz v n xs := fun {e sz v n xs} ho he => own_keep ho (fun b hvb _ => by
    obtain ⟨_, cur, hc⟩ := own_block ho hvb
    rw [hc]
    exact kp hc (fun hh => he (Nat.succ.inj hh)))
  have mk : ∀ {b kvs}, mapAt w b kvs → mapAt w' b kvs := fun {b kvs} hm => by
    obtain ⟨es, c, h1, h2⟩ := hm
    exact ⟨es, c, kp h1 (by simp [kindOf]), h2⟩
  refine ⟨kp h.ker (by simp [kindOf]), mk h.tmap, mk h.dmap, mk h.pmap, h.maps, ?_, fun j hj => kp (h.dev j hj) (by simp [kindOf]), h.dinj, fun j hj => kp (h.pack j hj) (by simp [kindOf]), fun j hj => rk (h.row j hj) (by decide), rk h.mrow (by decide), h.sep, h.low, h.tpos⟩
  intro j hj
  by_cases hji : j = i
  · subst hji
    simp only [upd_same]
    exact hb
  · simp only [upd_other _ _ hji]
    exact (ht.block _ (blt (h.task j hj)) (fun e => hji (h.tb_inj hj hi e))).trans (h.task j hj)

/-- A packet's block has turned. -/
theorem KRep.setPack {B kb : Nat} {g : G} {a : A} {w w' : World} (h : KRep B kb g a w) {i : Int} (hi : i ∈ a.pids) (t : Pk) (ht : Touch w w' (fun k => k = g.pb i)) (hb : w'.heap[g.pb i]? = some (.cells (pcells i t) 44 (0, 0))) :
    KRep B kb g { a with pk := upd a.pk i t } w' := by
  have hti := h.pack i hi
  have kp : ∀ {b o}, w.heap[b]? = some o → kindOf o ≠ 45 → w'.heap[b]? = some o := fun {b o} hb hk => keep_kind ht hb (fun o' hp hw => by
    subst hp
    rw [hti] at hw
    cases hw
    exact fun e => hk e.symm)
  have rk : ∀ {e sz v n xs}, w.ownsRow B e sz v n xs → e ≠ 44 → w'.ownsRow B e sz v n xs := fun {e sz v n xs} ho he => own_keep ho (fun b hvb _ => by
    obtain ⟨_, cur, hc⟩ := own_block ho hvb
    rw [hc]
    exact kp hc (fun hh => he (Nat.succ.inj hh)))
  have mk : ∀ {b kvs}, mapAt w b kvs → mapAt w' b kvs := fun {b kvs} hm => by
    obtain ⟨es, c, h1, h2⟩ := hm
    exact ⟨es, c, kp h1 (by simp [kindOf]), h2⟩
  refine ⟨kp h.ker (by simp [kindOf]), mk h.tmap, mk h.dmap, mk h.pmap, h.maps, fun j hj => kp (h.task j hj) (by simp [kindOf]), fun j hj => kp (h.dev j hj) (by simp [kindOf]), h.dinj, ?_, fun j hj => rk (h.row j hj) (by decide), rk h.mrow (by decide), h.sep, h.low, h.tpos⟩
  intro j hj
  by_cases hji : j = i
  · subst hji
    simp only [upd_same]
    exact hb
  · simp only [upd_other _ _ hji]
    exact (ht.block _ (blt (h.pack j hj)) (fun e => hji (h.pb_inj hj hi e))).trans (h.pack j hj)

/-- The kernel's own block has turned in its numbers. -/
theorem KRep.setKer {B kb : Nat} {g : G} {a : A} {w w' : World} (h : KRep B kb g a w) (m c : Int) (ht : Touch w w' (fun k => k = kb)) (hb : w'.heap[kb]? = some (.cells #[.map (some g.tm), .map (some g.dm), .map (some g.pm), .int .i64 m, g.qv 0, .int .i64 c] 70 (0, 0))) :
    KRep B kb g { a with made := m, calls := c } w' := by
  have hti := h.ker
  have kp : ∀ {b o}, w.heap[b]? = some o → kindOf o ≠ 71 → w'.heap[b]? = some o := fun {b o} hb hk => keep_kind ht hb (fun o' hp hw => by
    subst hp
    rw [hti] at hw
    cases hw
    exact fun e => hk e.symm)
  have rk : ∀ {e sz v n xs}, w.ownsRow B e sz v n xs → e ≠ 70 → w'.ownsRow B e sz v n xs := fun {e sz v n xs} ho he => own_keep ho (fun b hvb _ => by
    obtain ⟨_, cur, hc⟩ := own_block ho hvb
    rw [hc]
    exact kp hc (fun hh => he (Nat.succ.inj hh)))
  have mk : ∀ {b kvs}, mapAt w b kvs → mapAt w' b kvs := fun {b kvs} hm => by
    obtain ⟨es, c, h1, h2⟩ := hm
    exact ⟨es, c, kp h1 (by simp [kindOf]), h2⟩
  exact ⟨hb, mk h.tmap, mk h.dmap, mk h.pmap, h.maps, fun j hj => kp (h.task j hj) (by simp [kindOf]), fun j hj => kp (h.dev j hj) (by simp [kindOf]), h.dinj, fun j hj => kp (h.pack j hj) (by simp [kindOf]), fun j hj => rk (h.row j hj) (by decide), rk h.mrow (by decide), h.sep, h.low, h.tpos⟩
end Go.Proofs.Ytkmgbnklfnjfjaa.Ker
