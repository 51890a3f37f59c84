import Derived.Test.YtkmgbnklfnjfjaaRA
import Derived.Test.YtkmgbnklfnjfjaaQI
/-! States that tell the same; both kernels in one memory. -/
namespace Go.Proofs.Ytkmgbnklfnjfjaa.Ker
open Go.RowKit Go.Maps

/-- The state with another count of calls, and other moves. -/
def put (a : A) (c : Int) (m : List (Int × Int × Int × Int)) : A := { a with calls := c, moves := m }
/-- All but the count of calls and the moves is the same. -/
def Alike (a b : A) : Prop := ∃ c m, b = put a c m
theorem Alike.refl (a : A) : Alike a a := ⟨a.calls, a.moves, rfl⟩
theorem Alike.trans {a b c : A} (h : Alike a b) (k : Alike b c) : Alike a c := by
  obtain ⟨_, _, rfl⟩ := h
  obtain ⟨_, _, rfl⟩ := k
  exact ⟨_, _, rfl⟩
theorem Alike.symm {a b : A} (h : Alike a b) : Alike b a := by
  obtain ⟨_, _, rfl⟩ := h
  exact ⟨a.calls, a.moves, rfl⟩
/-- The same answer, and states that tell the same. -/
def AlikeS (s t : S) : Prop := t.1 = s.1 ∧ t.2.1 = s.2.1 ∧ Alike s.2.2 t.2.2
theorem alike_ite {p : Prop} [Decidable p] {s t s' t' : S} (h : AlikeS s s') (k : AlikeS t t') : AlikeS (if p then s else t) (if p then s' else t') := by
  split
  · exact h
  · exact k
theorem alike_leaf {v e : Int} {a b : A} (h : Alike a b) : AlikeS (v, e, a) (v, e, b) := ⟨rfl, rfl, h⟩
section
variable (a : A) (c : Int) (m : List (Int × Int × Int × Int)) (r x y : Int)
theorem alike_create : AlikeS (createS a x y) (createS (put a c m) x y) := by
  unfold createS
  exact alike_ite (alike_ite (alike_leaf ⟨c, m, rfl⟩) (alike_ite (alike_leaf ⟨c, m, rfl⟩) (alike_leaf ⟨c, m, rfl⟩))) (alike_leaf ⟨c, m, rfl⟩)
theorem alike_remove : AlikeS (removeS a x) (removeS (put a c m) x) := by
  unfold removeS
  exact alike_ite (alike_ite (alike_ite (alike_leaf ⟨c, m, rfl⟩) (alike_leaf ⟨c, m, rfl⟩)) (alike_leaf ⟨c, m, rfl⟩)) (alike_leaf ⟨c, m, rfl⟩)
theorem alike_move (b : A) (p f t : Int) (h : Alike a b) : Alike (moveA a p f t) (moveA b p f t) := by
  obtain ⟨c, m, rfl⟩ := h
  exact ⟨_, _, rfl⟩
theorem alike_send : AlikeS (sendS a r x y) (sendS (put a c m) r x y) := by
  unfold sendS
  exact alike_ite (alike_ite (alike_ite (alike_leaf ⟨c, m, rfl⟩) (alike_ite (alike_leaf (alike_move a _ x r y ⟨c, m, rfl⟩)) (alike_leaf ⟨c, m, rfl⟩))) (alike_leaf ⟨c, m, rfl⟩)) (alike_leaf ⟨c, m, rfl⟩)
theorem alike_take : AlikeS (takeS a r) (takeS (put a c m) r) := by
  unfold takeS
  show AlikeS (match a.q r with | [] => (0, 0, restA a r 0) | p :: _ => (p, 0, ownA a p r)) (match a.q r with | [] => (0, 0, restA (put a c m) r 0) | p :: _ => (p, 0, ownA (put a c m) p r))
  cases a.q r with
  | nil => exact alike_leaf ⟨c, m, rfl⟩
  | cons p l => exact alike_leaf ⟨c, m, rfl⟩
theorem alike_held (b : Bool) : AlikeS (heldS a x b) (heldS (put a c m) x b) := by
  unfold heldS
  exact alike_ite (alike_leaf ⟨c, m, rfl⟩) (alike_leaf ⟨c, m, rfl⟩)
theorem alike_set : AlikeS (setS a x y) (setS (put a c m) x y) := by
  unfold setS
  exact alike_ite (alike_ite (alike_leaf ⟨c, m, rfl⟩) (alike_leaf ⟨c, m, rfl⟩)) (alike_leaf ⟨c, m, rfl⟩)
theorem alike_test : AlikeS (testS a r x) (testS (put a c m) r x) := by
  unfold testS
  exact alike_ite (alike_leaf ⟨c, m, rfl⟩) (alike_leaf ⟨c, m, rfl⟩)
theorem alike_pri : AlikeS (priS a x y) (priS (put a c m) x y) := by
  unfold priS
  exact alike_ite (alike_ite (alike_ite (alike_leaf ⟨c, m, rfl⟩) (alike_leaf ⟨c, m, rfl⟩)) (alike_leaf ⟨c, m, rfl⟩)) (alike_leaf ⟨c, m, rfl⟩)
theorem alike_fetch : AlikeS (fetchS a r x) (fetchS (put a c m) r x) := by
  unfold fetchS
  exact alike_ite (alike_ite (alike_leaf ⟨c, m, rfl⟩) (alike_ite (alike_leaf ⟨c, m, rfl⟩) (alike_leaf ⟨c, m, rfl⟩))) (alike_leaf ⟨c, m, rfl⟩)
theorem alike_packet : AlikeS (packetS a r x) (packetS (put a c m) r x) := by
  unfold packetS
  exact alike_ite (alike_leaf ⟨c, m, rfl⟩) (alike_leaf ⟨c, m, rfl⟩)
theorem alike_device : AlikeS (deviceS a x y) (deviceS (put a c m) x y) := by
  unfold deviceS
  refine alike_ite ?_ (alike_leaf ⟨c, m, rfl⟩)
  show AlikeS (match a.q x with | [] => (0, 5, a) | p :: _ => if (a.pk p).frm ∈ a.tids then (0, 0, moveA (resA (dropA a x p) p y) p x (a.pk p).frm) else (0, 5, dropA a x p))
    (match a.q x with | [] => (0, 5, put a c m) | p :: _ => if (a.pk p).frm ∈ a.tids then (0, 0, moveA (resA (dropA (put a c m) x p) p y) p x (a.pk p).frm) else (0, 5, dropA (put a c m) x p))
  cases a.q x with
  | nil => exact alike_leaf ⟨c, m, rfl⟩
  | cons p l => exact alike_ite (alike_leaf (alike_move _ _ _ _ _ ⟨c, m, rfl⟩)) (alike_leaf ⟨c, m, rfl⟩)
theorem alike_wait : AlikeS (waitS a r x) (waitS (put a c m) r x) := by
  unfold waitS
  exact alike_ite (alike_ite (alike_leaf ⟨c, m, rfl⟩) (alike_ite (alike_leaf ⟨c, m, rfl⟩) (alike_leaf ⟨c, m, rfl⟩))) (alike_leaf ⟨c, m, rfl⟩)
theorem alike_step (d : Int) : AlikeS (stepA a r d x y) (stepA (put a c m) r d x y) := by
  unfold stepA
  exact alike_ite (alike_create a c m x y) (alike_ite (alike_remove a c m x) (alike_ite (alike_send a c m r x y) (alike_ite (alike_take a c m r) (alike_ite (alike_held a c m x true) (alike_ite (alike_held a c m x false)
    (alike_ite (alike_set a c m x y) (alike_ite (alike_test a c m r x) (alike_ite (alike_pri a c m x y) (alike_ite (alike_fetch a c m r x) (alike_ite (alike_packet a c m r x) (alike_ite (alike_device a c m x y) (alike_ite (alike_wait a c m r x) (alike_leaf ⟨c, m, rfl⟩)))))))))))))
end
theorem alike_run {a b : A} (h : Alike a b) : runF b = runF a := by
  obtain ⟨c, m, rfl⟩ := h
  rfl
/-- A call does the same on states that tell the same. -/
theorem alike_do {a b : A} (h : Alike a b) (c : C3) : AlikeS (doF a c) (doF b c) := by
  obtain ⟨n, m, rfl⟩ := h
  unfold doF
  have e : runF (bump (put a n m)) = runF (bump a) := rfl
  rw [e]
  unfold doA
  exact alike_ite (alike_leaf ⟨_, m, rfl⟩) (alike_ite (alike_leaf ⟨_, m, rfl⟩) (alike_step { a with calls := a.calls + 1 } (n + 1) m _ _ _ _))

/-- A call with an error leaves a state that tells the same. -/
def Stays (a : A) (s : S) : Prop := s.2.1 ≠ 0 → s.2.2 = a
theorem stays_ite {a : A} {p : Prop} [Decidable p] {s t : S} (h : Stays a s) (k : Stays a t) : Stays a (if p then s else t) := by
  split
  · exact h
  · exact k
theorem stays_err {a : A} {v e : Int} : Stays a (v, e, a) := fun _ => rfl
theorem stays_ok {a b : A} {v : Int} : Stays a (v, 0, b) := fun h => absurd rfl h
theorem stays_step (a : A) (r d x y : Int) (hd : d ≠ 12) : Stays a (stepA a r d x y) := by
  unfold stepA createS removeS sendS heldS setS testS priS fetchS packetS waitS
  have ht : Stays a (takeS a r) := by
    unfold takeS
    cases a.q r with
    | nil => exact stays_ok
    | cons p l => exact stays_ok
  refine stays_ite ?_ (stays_ite ?_ (stays_ite ?_ (stays_ite ht (stays_ite ?_ (stays_ite ?_ (stays_ite ?_ (stays_ite ?_ (stays_ite ?_ (stays_ite ?_ (stays_ite ?_ ?_))))))))))
  rotate_right
  · rw [if_neg hd]
    repeat' (first | exact stays_err | exact stays_ok | apply stays_ite)
  all_goals repeat' (first | exact stays_err | exact stays_ok | apply stays_ite)
theorem stays_do (a : A) (c : C3) (hd : c.1 ≠ 12) (he : (doF a c).2.1 ≠ 0) : Alike a (doF a c).2.2 := by
  have h : Stays { a with calls := a.calls + 1 } (doF a c) := by
    unfold doF doA
    exact stays_ite stays_err (stays_ite stays_err (stays_step { a with calls := a.calls + 1 } _ _ _ _ hd))
  rw [h he]
  exact ⟨_, _, rfl⟩

/-- The blocks of the kernel. -/
def OwnK (kb : Nat) (g : G) (a : A) (k : Nat) : Prop := k = kb ∨ k = g.tm ∨ k = g.dm ∨ k = g.pm ∨ (∃ i ∈ a.tids, k = g.tb i) ∨ (∃ i ∈ devs, k = g.db i) ∨ (∃ i ∈ a.pids, k = g.pb i) ∨ (∃ i, a.owner i ∧ (g.qv i).ownBlock = some k) ∨ (g.qv 0).ownBlock = some k
theorem KRep.keepOn {B kb : Nat} {g : G} {a : A} {w w' : World} (h : KRep B kb g a w) (hk : ∀ k, OwnK kb g a k → w'.heap[k]? = w.heap[k]?) : KRep B kb g a w' where
  ker := (hk _ (.inl rfl)).trans h.ker
  tmap := h.tmap.keep (hk _ (.inr (.inl rfl)))
  dmap := h.dmap.keep (hk _ (.inr (.inr (.inl rfl))))
  pmap := h.pmap.keep (hk _ (.inr (.inr (.inr (.inl rfl)))))
  maps := h.maps
  task := fun i hi => (hk _ (.inr (.inr (.inr (.inr (.inl ⟨i, hi, rfl⟩)))))).trans (h.task i hi)
  dev := fun i hi => (hk _ (.inr (.inr (.inr (.inr (.inr (.inl ⟨i, hi, rfl⟩))))))).trans (h.dev i hi)
  dinj := h.dinj
  pack := fun i hi => (hk _ (.inr (.inr (.inr (.inr (.inr (.inr (.inl ⟨i, hi, rfl⟩)))))))).trans (h.pack i hi)
  row := fun i hi => own_keep (h.row i hi) (fun b hb _ => hk b (.inr (.inr (.inr (.inr (.inr (.inr (.inr (.inl ⟨i, hi, hb⟩)))))))))
  mrow := own_keep h.mrow (fun b hb _ => hk b (.inr (.inr (.inr (.inr (.inr (.inr (.inr (.inr hb)))))))))
  sep := h.sep
  low := h.low
  tpos := h.tpos
/-- What lies in a block of the kernel. -/
theorem KRep.kinds {B kb : Nat} {g : G} {a : A} {w : World} (h : KRep B kb g a w) {k : Nat} (hk : OwnK kb g a k) : (∃ kvs, mapAt w k kvs) ∨ (∃ c ty fr, w.heap[k]? = some (.cells c ty fr) ∧ ownTy ty = true) ∨ (g.qv 0).ownBlock = some k := by
  rcases hk with rfl | rfl | rfl | rfl | ⟨i, hi, rfl⟩ | ⟨i, hi, rfl⟩ | ⟨i, hi, rfl⟩ | ⟨i, hi, hk⟩ | hk
  · exact .inr (.inl ⟨_, _, _, h.ker, rfl⟩)
  · exact .inl ⟨_, h.tmap⟩
  · exact .inl ⟨_, h.dmap⟩
  · exact .inl ⟨_, h.pmap⟩
  · exact .inr (.inl ⟨_, _, _, h.task i hi, rfl⟩)
  · exact .inr (.inl ⟨_, _, _, h.dev i hi, rfl⟩)
  · exact .inr (.inl ⟨_, _, _, h.pack i hi, rfl⟩)
  · obtain ⟨_, c, hc⟩ := own_block (h.row i hi) hk
    exact .inr (.inl ⟨_, _, _, hc, rfl⟩)
  · exact .inr (.inr hk)
/-- What lies in a block of the specification's kernel. -/
theorem RRep.kinds {B xb : Nat} {h : RG} {a : A} {w : World} (r : RRep B xb h a w) {k : Nat} (hk : OwnR xb h a k) : (∃ c ty fr, w.heap[k]? = some (.cells c ty fr) ∧ ownTy ty = false ∧ ty ≠ 31) ∨ ((∃ c fr, w.heap[k]? = some (.cells c 31 fr)) ∧ h.mv.ownBlock = some k) := by
  rcases hk with rfl | hk | hk | hk | ⟨i, hi, hk⟩
  · exact .inl ⟨_, _, _, r.blk, rfl, by decide⟩
  · obtain ⟨_, c, hc⟩ := own_block r.trow hk
    exact .inl ⟨_, _, _, hc, rfl, by decide⟩
  · obtain ⟨_, c, hc⟩ := own_block r.prow hk
    exact .inl ⟨_, _, _, hc, rfl, by decide⟩
  · obtain ⟨_, c, hc⟩ := own_block r.mrow hk
    exact .inr ⟨⟨_, _, hc⟩, hk⟩
  · obtain ⟨_, c, hc⟩ := own_block (r.row i hi) hk
    exact .inl ⟨_, _, _, hc, rfl, by decide⟩
theorem KRep.own_lt {B kb : Nat} {g : G} {a : A} {w : World} (h : KRep B kb g a w) {k : Nat} (hk : OwnK kb g a k) : k < w.heap.size := by
  rcases h.kinds hk with ⟨_, h1⟩ | ⟨_, _, _, h1, _⟩ | h1
  · exact h1.lt
  · exact blt h1
  · exact Ker.own_lt h.mrow h1
/-- Both kernels live in one memory, apart. -/
structure Both (B kb xb : Nat) (g : G) (h : RG) (a x : A) (w : World) : Prop where
  k : KRep B kb g a w
  r : RRep B xb h x w
  sep : sepB (g.qv 0) h.mv
theorem Both.apart {B kb xb : Nat} {g : G} {h : RG} {a x : A} {w : World} (b : Both B kb xb g h a x w) {k : Nat} (hk : OwnK kb g a k) (hr : OwnR xb h x k) : False := by
  rcases b.r.kinds hr with ⟨c, ty, fr, h1, h2, h3⟩ | ⟨⟨c, fr, h1⟩, h2⟩
  · rcases b.k.kinds hk with ⟨_, k1⟩ | ⟨_, _, _, k1, k2⟩ | k1
    · obtain ⟨_, _, k1, _⟩ := k1
      rw [h1] at k1; cases k1
    · rw [h1] at k1
      cases k1
      rw [h2] at k2; cases k2
    · obtain ⟨_, _, k2⟩ := own_block b.k.mrow k1
      rw [h1] at k2
      cases k2
      exact h3 rfl
  · rcases b.k.kinds hk with ⟨_, k1⟩ | ⟨_, _, _, k1, k2⟩ | k1
    · obtain ⟨_, _, k1, _⟩ := k1
      rw [h1] at k1; cases k1
    · rw [h1] at k1
      cases k1
      cases k2
    · exact b.sep _ k1 h2
theorem Both.below {B kb xb : Nat} {g : G} {h : RG} {a x : A} {w w' : World} (b : Both B kb xb g h a x w) (hb : Below w.heap.size w w') : Both B kb xb g h a x w' := ⟨b.k.below hb, b.r.below hb, b.sep⟩
/-- A call of the kernel. -/
theorem Both.ker {B kb xb : Nat} {g g' : G} {h : RG} {a a' x : A} {w w' : World} (b : Both B kb xb g h a x w) (hb : Bel B kb w w') (hk : KRep B kb g' a' w') : Both B kb xb g' h a' x w' := by
  have hd : ∀ j, Held kb w j → (g.qv 0).ownBlock = some j := fun j ⟨c, fr, v, h1, h2, h3⟩ => by
    rw [b.k.ker] at h1
    cases h1
    simp at h2
    rw [h2]
    exact h3
  refine ⟨hk, b.r.keep (fun k hr => ?_), fun j hj hm => ?_⟩
  · rcases b.r.kinds hr with ⟨c, ty, fr, h1, h2, h3⟩ | ⟨⟨c, fr, h1⟩, h2⟩
    · exact (hb.off _ _ _ _ h1 h2 (fun e => absurd e h3)).trans h1.symm
    · exact (hb.off _ _ _ _ h1 rfl (fun _ hh => b.sep _ (hd k hh) h2)).trans h1.symm
  · have hlt := Ker.own_lt b.r.mrow hm
    exact b.sep _ (hd j (hb.held j hlt (hk.held hj))) hm
/-- A call of the specification's kernel. -/
theorem Both.ref {B kb xb : Nat} {g : G} {h h' : RG} {a x x' : A} {w w' : World} (b : Both B kb xb g h a x w) (hl : Left B xb h x w h' x' w') : Both B kb xb g h' a x' w' := by
  refine ⟨b.k.keepOn (fun k hk => hl.touch.block k (b.k.own_lt hk) (fun hr => b.apart hk hr)), hl.rep, fun j hj hm => ?_⟩
  have hlt := Ker.own_lt b.k.mrow hj
  rcases hl.own j (.inr (.inr (.inr (.inl hm)))) with h1 | h1
  · exact b.apart (.inr (.inr (.inr (.inr (.inr (.inr (.inr (.inr hj)))))))) h1
  · omega
end Go.Proofs.Ytkmgbnklfnjfjaa.Ker
/-! Queue and Packet of either kernel, each by one plain function. -/
namespace Go.Proofs.Ytkmgbnklfnjfjaa.Ker
open Go.RowKit Go.Maps

/-- Queue, plainly. -/
def qF (a : A) (i : Int) : List Int := if i ∈ a.tids ∨ i ∈ devs then a.q i else []
def qE (a : A) (i : Int) : Int := if i ∈ a.tids ∨ i ∈ devs then 0 else 190
/-- Packet, plainly. -/
def pF (a : A) (i : Int) : Int × Pk := if i ∈ a.pids then (i, a.pk i) else (0, ⟨0, 0, 0, 0, 0, 0⟩)
def pE (a : A) (i : Int) : Int := if i ∈ a.pids then 0 else 191
theorem qF_len {a : A} (gd : Good a) (i : Int) : (qF a i).length ≤ 200 := by
  unfold qF
  split
  · rename_i h
    exact gd.qlen h
  · simp
theorem kq_any {B kb : Nat} {g : G} {a : A} {w : World} (h : KRep B kb g a w) (gd : Good a) (i : Int) :
    Calls Try.prog 21 #[ptr kb, .int .i64 i] w fun e w' => ∃ v, e = .returned (.tuple #[v, .int .i64 (qE a i)]) ∧ Below w.heap.size w w' ∧ intsAt w' v (qF a i) := by
  by_cases ho : a.owner i
  · have e1 : qF a i = a.q i := if_pos ho
    have e2 : qE a i = 0 := if_pos ho
    rw [e1, e2]
    refine (queue_some B kb g a w h i ho (by have := gd.qlen ho; omega) (fun p hp => (gd.qin i ho p hp).1)).mono ?_
    rintro e w' ⟨v, rfl, hb, hr⟩
    exact ⟨v, rfl, hb, _, hr⟩
  · have e1 : qF a i = [] := if_neg ho
    have e2 : qE a i = 190 := if_neg ho
    rw [e1, e2]
    refine (queue_none B kb g a w h i ho).mono ?_
    rintro e w' ⟨rfl, rfl⟩
    exact ⟨_, rfl, Below.refl _ _, 0, owns_none⟩
theorem rq_any {B xb : Nat} {h : RG} {a : A} {w : World} (r : RRep B xb h a w) (gd : Good a) (i : Int) :
    Calls Try.prog 38 #[ptr xb, .int .i64 i] w fun e w' => ∃ v, e = .returned (.tuple #[v, .int .i64 (qE a i)]) ∧ Below w.heap.size w w' ∧ intsAt w' v (qF a i) := by
  by_cases ho : a.owner i
  · have e1 : qF a i = a.q i := if_pos ho
    have e2 : qE a i = 0 := if_pos ho
    rw [e1, e2]
    refine (rqueue_some B xb h a w r gd i ho).mono ?_
    rintro e w' ⟨v, rfl, hb, hr⟩
    exact ⟨v, rfl, hb, _, hr⟩
  · have e1 : qF a i = [] := if_neg ho
    have e2 : qE a i = 190 := if_neg ho
    rw [e1, e2]
    refine (rqueue_none B xb h a w r gd i ho).mono ?_
    rintro e w' ⟨rfl, rfl⟩
    exact ⟨_, rfl, Below.refl _ _, 0, owns_none⟩
theorem kp_any {B kb : Nat} {g : G} {a : A} {w : World} (h : KRep B kb g a w) (i : Int) :
    Calls Try.prog 20 #[ptr kb, .int .i64 i] w fun e w' => e = .returned (.tuple #[pagg (pF a i).1 (pF a i).2, .int .i64 (pE a i)]) ∧ Below w.heap.size w w' := by
  by_cases ho : i ∈ a.pids
  · have e1 : pF a i = (i, a.pk i) := if_pos ho
    have e2 : pE a i = 0 := if_pos ho
    rw [e1, e2]
    exact getp_some B kb g a w h i ho
  · have e1 : pF a i = (0, ⟨0, 0, 0, 0, 0, 0⟩) := if_neg ho
    have e2 : pE a i = 191 := if_neg ho
    rw [e1, e2]
    exact getp_none B kb g a w h i ho
theorem rp_any {B xb : Nat} {h : RG} {a : A} {w : World} (r : RRep B xb h a w) (gd : Good a) (g2 : Good2 a) (i : Int) :
    Calls Try.prog 39 #[ptr xb, .int .i64 i] w fun e w' => e = .returned (.tuple #[pagg (pF a i).1 (pF a i).2, .int .i64 (pE a i)]) ∧ Below w.heap.size w w' := by
  by_cases ho : i ∈ a.pids
  · have e1 : pF a i = (i, a.pk i) := if_pos ho
    have e2 : pE a i = 0 := if_pos ho
    rw [e1, e2]
    exact rgetp_some B xb h a w r gd g2 i ho
  · have e1 : pF a i = (0, ⟨0, 0, 0, 0, 0, 0⟩) := if_neg ho
    have e2 : pE a i = 191 := if_neg ho
    rw [e1, e2]
    exact rgetp_none B xb h a w r gd g2 i ho
theorem qF_W {a b : A} (h : Alike a b) {l : List Int} (hl : l.Perm a.tids) (i : Int) : qF (W b l) i = qF a i ∧ qE (W b l) i = qE a i := by
  obtain ⟨c, m, rfl⟩ := h
  have e : (i ∈ l ∨ i ∈ devs) = (i ∈ a.tids ∨ i ∈ devs) := by rw [hl.mem_iff]
  constructor
  · show (if i ∈ l ∨ i ∈ devs then a.q i else []) = if i ∈ a.tids ∨ i ∈ devs then a.q i else []
    simp only [e]
  · show (if i ∈ l ∨ i ∈ devs then (0 : Int) else 190) = if i ∈ a.tids ∨ i ∈ devs then 0 else 190
    simp only [e]
theorem pF_W {a b : A} (h : Alike a b) {l : List Int} (i : Int) : pF (W b l) i = pF a i ∧ pE (W b l) i = pE a i := by
  obtain ⟨c, m, rfl⟩ := h
  exact ⟨rfl, rfl⟩
/-- Both states behind a call, with the specification's tasks sorted. -/
theorem rdo_srt (B xb : Nat) (h : RG) (a : A) (l : List Int) (w : World) (r : RRep B xb h (W a l) w) (hl : l.Perm a.tids) (hs : Srt l) (gd : Good a) (g2 : Good2 a) (hca : 0 ≤ a.calls ∧ a.calls < 100000) (c : C3) (cc cd : Int) :
    Calls Try.prog 26 #[ptr xb, .agg #[.int .i64 c.1, .int .i64 c.2.1, .int .i64 c.2.2, .int .i64 cc, .int .i64 cd]] w fun e w' => e = .returned (.tuple #[.int .i64 (doF a c).1, .int .i64 (doF a c).2.1]) ∧ ∃ h' l', l'.Perm (doF a c).2.2.tids ∧ Srt l' ∧ Left B xb h (W a l) w h' (W (doF a c).2.2 l') w' := by
  obtain ⟨d, x, y⟩ := c
  have hm := gd.mcalls
  have hs2 := srt_do (W a l) (d, x, y) hs
  refine (rDo_any B xb h (W a l) w r (good_W gd hl) (good2_W g2 hl) (show a.moves.length ≤ 100000 by omega) hca d x y cc cd).mono ?_
  obtain ⟨e1, e2, l', hp, e3⟩ := sim_do gd g2 hl (d, x, y)
  rw [e3] at hs2
  rw [e1, e2, e3]
  rintro e w' ⟨rfl, h', hL⟩
  exact ⟨rfl, h', l', hp, hs2, hL⟩
end Go.Proofs.Ytkmgbnklfnjfjaa.Ker
