import Derived.Test.YtkdnkjjnmadhgaaHI
import Derived.Test.YtkdnkjjnmadhgaaHP
set_option linter.unusedVariables false
set_option linter.unusedSimpArgs false
/-! A plan at a bus with any devices, without memory. -/
namespace Go.Proofs.Ytkdnkjjnmadhgaa.Dev
open Go.RowKit Go.Maps Go.Lib

/-- A request of a plan: to whom, when, what. -/
structure PE where
  dev : Int
  at_ : Int
  q : PQ
def rqX (x : PE) (ord : Int) : Rq := ⟨x.q.pk, x.q.do_, x.q.a_, x.q.b_, x.q.dv, x.at_, ord⟩
def stepG (g : GB) (x : PE) : GB :=
  match g.ds[(x.dev - 1).toNat]? with
  | none => g
  | some p => sendG g (x.dev - 1).toNat p (rqX x g.sent) (bytes x.q.data)
def runG (g : GB) (xs : List PE) : GB := xs.foldl stepG g
def OkX (g : GB) (x : PE) : Prop := OkG g x.dev x.at_ x.q.do_ x.q.data.length
theorem runG_snoc (g : GB) (xs : List PE) (x : PE) : runG g (xs ++ [x]) = stepG (runG g xs) x := by unfold runG; rw [List.foldl_append]; rfl
theorem OkX.get {g : GB} {x : PE} (h : OkX g x) : ∃ p, g.ds[(x.dev - 1).toNat]? = some p ∧ 1 ≤ x.q.do_ ∧ x.q.do_ ≤ mostDo p ∧ stepG g x = sendG g (x.dev - 1).toNat p (rqX x g.sent) (bytes x.q.data) := by
  obtain ⟨⟨h1, h2⟩, _, _, h3, _⟩ := h
  have hl : (x.dev - 1).toNat < g.ds.length := by omega
  refine ⟨g.ds[(x.dev - 1).toNat], List.getElem?_eq_getElem hl, (h3 _ (List.getElem?_eq_getElem hl)).1, (h3 _ (List.getElem?_eq_getElem hl)).2, ?_⟩
  unfold stepG
  rw [List.getElem?_eq_getElem hl]
/-- Those who wait at a device. -/
def waitQ : PDv → List Rq
  | .line p => p.wait
  | _ => []
theorem matchF_rqs : ∀ (rc : Int) (ws : List Rq) (l : List (Int × List Value)), ((matchF rc ws l).2.2.2.map (·.1)) ++ (matchF rc ws l).2.1 = ws
  | rc, [], l => by simp [matchF]
  | rc, w :: ws, [] => by simp [matchF]
  | rc, w :: ws, m :: l => by
    have := matchF_rqs (max (max rc w.at_) m.1) ws l
    simp only [matchF, List.map_cons, List.cons_append]
    rw [this]
theorem lineF_rqs (p : PL) (q : Rq) (d : List Value) : (((lineF p q d).2.map (·.1)) ++ (lineF p q d).1.wait).Perm (p.wait ++ [q]) := by
  have h := matchF_rqs (addF p q d).1.recv (addF p q d).1.wait (addF p q d).1.msgs
  have h2 : ((meetF (addF p q d).1).2.map (·.1)) ++ (meetF (addF p q d).1).1.wait = (addF p q d).1.wait := by
    refine Eq.trans ?_ h
    unfold meetF
    simp only [List.map_map]
    rfl
  have e : ((lineF p q d).2.map (·.1)) ++ (lineF p q d).1.wait = (addF p q d).2.map (·.1) ++ (addF p q d).1.wait := by
    refine Eq.trans ?_ (congrArg (fun z => (addF p q d).2.map (·.1) ++ z) h2)
    unfold lineF
    simp only [List.map_append, List.append_assoc]
  rw [e]
  unfold addF
  split
  · simp
  · simp only [List.map_cons, List.map_nil]
    exact List.perm_append_comm
theorem devF_rqs (p : PDv) (q : Rq) (d : List Value) : (((devF p q d).2.map (·.1)) ++ waitQ (devF p q d).1).Perm (waitQ p ++ [q]) := by
  cases p with
  | clock => exact List.Perm.refl _
  | disk p => exact List.Perm.refl _
  | term p => exact List.Perm.refl _
  | line p =>
    by_cases hl : q.do_ = 2 ∧ 64 < d.length
    · have e1 : devF (.line p) q d = (.line p, [(q, q.at_, -3, [])]) := if_pos hl
      rw [e1]
      exact List.perm_append_comm
    · have e1 : devF (.line p) q d = (.line (lineF p q d).1, (lineF p q d).2) := if_neg hl
      rw [e1]
      exact lineF_rqs p q d
theorem PInv.more {i j : Nat} {p : PDv} (h : PInv i p) (hij : i ≤ j) : PInv j p := by
  cases p with
  | clock => trivial
  | disk p =>
    obtain ⟨a1, a2, a3, a4, a5, a6, a7, a8⟩ := h
    exact ⟨a1, a2, a3, by omega, a5, a6, a7, by omega⟩
  | term p => exact h
  | line p =>
    obtain ⟨a1, a2, a3, a4, a5, a6, a7, a8⟩ := h
    exact ⟨a1, by omega, by omega, a4, a5, by omega, by omega, a8⟩
theorem devF_few {i : Nat} {p : PDv} (h : PInv i p) (hi : i ≤ 100) (q : Rq) (d : List Value) : (devF p q d).2.length ≤ 1000 := by
  cases p with
  | clock => show 1 ≤ 1000; decide
  | disk p => show 1 ≤ 1000; decide
  | term p => show 1 ≤ 1000; decide
  | line p =>
    by_cases hl : q.do_ = 2 ∧ 64 < d.length
    · have e1 : devF (.line p) q d = (.line p, [(q, q.at_, -3, [])]) := if_pos hl
      rw [e1]; show 1 ≤ 1000; decide
    · have e1 : devF (.line p) q d = (.line (lineF p q d).1, (lineF p q d).2) := if_neg hl
      rw [e1]
      exact lineF_few2 h hi q d
/-- Data that are bytes. -/
def IsB (xs : List Value) : Prop := ∃ bs : List Int, xs = bytes bs ∧ bs.length ≤ 4000
def PByt : PDv → Prop
  | .disk p => ∀ x ∈ p.blocks, IsB x
  | .line p => ∀ x ∈ p.msgs, IsB x.2
  | _ => True
theorem IsB.nil_ : IsB [] := ⟨[], rfl, by decide⟩
theorem matchF_byt : ∀ (rc : Int) (ws : List Rq) (l : List (Int × List Value)), (∀ x ∈ l, IsB x.2) → ∀ y ∈ (matchF rc ws l).2.2.2, IsB y.2.2
  | rc, [], l, _ => by simp [matchF]
  | rc, w :: ws, [], _ => by simp [matchF]
  | rc, w :: ws, m :: l, h => by
    have := matchF_byt (max (max rc w.at_) m.1) ws l fun x hx => h x (List.mem_cons_of_mem _ hx)
    simp only [matchF, List.mem_cons]
    rintro y (rfl | hy)
    · exact h m (by simp)
    · exact this y hy
theorem devF_byt {p : PDv} (h : PByt p) (q : Rq) (d : List Value) (hd : IsB d) : PByt (devF p q d).1 ∧ ∀ o ∈ (devF p q d).2, IsB o.2.2.2 := by
  cases p with
  | clock => exact ⟨trivial, fun o ho => by simp only [devF, List.mem_singleton] at ho; subst ho; exact IsB.nil_⟩
  | term p => exact ⟨trivial, fun o ho => by simp only [devF, List.mem_singleton] at ho; subst ho; exact IsB.nil_⟩
  | disk p =>
    have key : (∀ x ∈ (diskF p q d).1.blocks, IsB x) ∧ IsB (diskF p q d).2.2.2 := by
      unfold diskF
      split
      · exact ⟨h, IsB.nil_⟩
      split
      · exact ⟨h, IsB.nil_⟩
      split
      · exact ⟨h, IsB.nil_⟩
      split
      · exact ⟨h, IsB.nil_⟩
      split
      · refine ⟨h, ?_⟩
        show IsB (p.blocks.getD q.a_.toNat [])
        rw [List.getD_eq_getElem?_getD]
        cases hb : p.blocks[q.a_.toNat]? with
        | none => exact IsB.nil_
        | some x => exact h x (List.mem_of_getElem? hb)
      · refine ⟨fun x hx => ?_, IsB.nil_⟩
        rcases List.mem_or_eq_of_mem_set hx with hx | rfl
        · exact h x hx
        · exact hd
    exact ⟨key.1, fun o ho => by simp only [devF, List.mem_singleton] at ho; subst ho; exact key.2⟩
  | line p =>
    by_cases hl : q.do_ = 2 ∧ 64 < d.length
    · have e1 : devF (.line p) q d = (.line p, [(q, q.at_, -3, [])]) := if_pos hl
      rw [e1]
      exact ⟨h, fun o ho => by simp only [List.mem_singleton] at ho; subst ho; exact IsB.nil_⟩
    · have e1 : devF (.line p) q d = (.line (lineF p q d).1, (lineF p q d).2) := if_neg hl
      rw [e1]
      have hadd : (∀ x ∈ (addF p q d).1.msgs, IsB x.2) ∧ ∀ o ∈ (addF p q d).2, IsB o.2.2.2 := by
        unfold addF
        split
        · exact ⟨h, fun o ho => by cases ho⟩
        · refine ⟨fun x hx => ?_, fun o ho => by simp only [List.mem_singleton] at ho; subst ho; exact IsB.nil_⟩
          dsimp only at hx
          split at hx
          · exact h x hx
          · rcases List.mem_append.1 hx with hx | hx
            · exact h x hx
            · rw [List.mem_singleton.1 hx]; exact hd
      refine ⟨fun x hx => hadd.1 x ((matchF_sub _ _ _).2.2 x hx), fun o ho => ?_⟩
      have ho : o ∈ (addF p q d).2 ++ (meetF (addF p q d).1).2 := ho
      rcases List.mem_append.1 ho with ho | ho
      · exact hadd.2 o ho
      · unfold meetF at ho
        simp only [List.mem_map] at ho
        obtain ⟨y, hy, rfl⟩ := ho
        exact matchF_byt _ _ _ hadd.1 y hy
end Go.Proofs.Ytkdnkjjnmadhgaa.Dev
/-! A plan at a bus with any devices: what holds on the way. -/
namespace Go.Proofs.Ytkdnkjjnmadhgaa.Dev
open Go.RowKit Go.Maps Go.Lib

theorem flat_set_perm {α β : Type} (f : α → List β) (p p' : α) (new : List β) (o : β) (h : (new ++ f p').Perm (f p ++ [o])) : ∀ (l : List α) (i : Nat), l[i]? = some p → (new ++ (l.set i p').flatMap f).Perm (l.flatMap f ++ [o])
  | [], i, hp => by simp at hp
  | x :: l, 0, hp => by
    simp only [List.getElem?_cons_zero, Option.some.injEq] at hp
    subst hp
    rw [List.set_cons_zero, List.flatMap_cons, List.flatMap_cons, ← List.append_assoc]
    refine (h.append_right _).trans ?_
    rw [List.append_assoc, List.append_assoc]
    exact List.Perm.append_left _ List.perm_append_comm
  | x :: l, i + 1, hp => by
    have h1 := flat_set_perm f p p' new o h l i (by simpa using hp)
    rw [List.set_cons_succ, List.flatMap_cons, List.flatMap_cons]
    have h2 : (new ++ (f x ++ (l.set i p').flatMap f)).Perm (f x ++ (new ++ (l.set i p').flatMap f)) := by
      rw [← List.append_assoc, ← List.append_assoc]
      exact List.perm_append_comm.append_right _
    refine h2.trans ?_
    rw [List.append_assoc]
    exact List.Perm.append_left _ h1
def ordsOf (p : PDv) : List Int := (waitQ p).map (·.ord)
structure GInv (g : GB) : Prop where
  inv : ∀ p ∈ g.ds, PInv g.sent p
  byt : ∀ p ∈ g.ds, PByt p
  rqs : (g.all.map (·.2.1.ord) ++ g.ds.flatMap ordsOf).Perm ((List.range g.sent).map Int.ofNat)
  now0 : 0 ≤ g.now
  dat : ∀ o ∈ g.all, IsB o.2.2.2.2
theorem GInv.step {g : GB} (h : GInv g) {x : PE} (hok : OkX g x) : GInv (stepG g x) := by
  obtain ⟨p, hp, h1, h2, e⟩ := hok.get
  rw [e]
  obtain ⟨_, hn, ht, _, hl⟩ := hok
  have hpm : p ∈ g.ds := List.mem_of_getElem? hp
  have hd : IsB (bytes x.q.data) := ⟨x.q.data, rfl, hl⟩
  have hat : 0 ≤ x.at_ := Int.le_trans h.now0 hn
  have hb := devF_byt (h.byt p hpm) (rqX x g.sent) _ hd
  refine ⟨fun p' hp' => ?_, fun p' hp' => ?_, ?_, hat, fun o ho => ?_⟩
  · show PInv (g.sent + 1) p'
    rcases List.mem_or_eq_of_mem_set hp' with hm | rfl
    · exact (h.inv _ hm).more (Nat.le_succ _)
    · exact (h.inv p hpm).step (rqX x g.sent) x.q.data hat ht ⟨h1, h2⟩
  · rcases List.mem_or_eq_of_mem_set hp' with hm | rfl
    · exact h.byt _ hm
    · exact hb.1
  · show ((g.all ++ _).map _ ++ (g.ds.set _ _).flatMap ordsOf).Perm ((List.range (g.sent + 1)).map Int.ofNat)
    have hq := (devF_rqs p (rqX x g.sent) (bytes x.q.data)).map (·.ord)
    rw [List.map_append, List.map_append, List.map_map] at hq
    have h3 := flat_set_perm ordsOf p (devF p (rqX x g.sent) (bytes x.q.data)).1 ((devF p (rqX x g.sent) (bytes x.q.data)).2.map ((·.ord) ∘ (·.1))) (Int.ofNat g.sent) hq g.ds _ hp
    rw [List.range_succ, List.map_append, List.map_append, List.map_map, List.append_assoc]
    refine (List.Perm.append_left _ h3).trans ?_
    rw [← List.append_assoc]
    exact h.rqs.append_right _
  · have ho : o ∈ g.all ++ (devF p (rqX x g.sent) (bytes x.q.data)).2.map _ := ho
    rcases List.mem_append.1 ho with ho | ho
    · exact h.dat o ho
    · obtain ⟨y, hy, rfl⟩ := List.mem_map.1 ho
      exact hb.2 y hy
theorem GInv.nodup {g : GB} (h : GInv g) : (g.all.map (·.2.1.ord)).Nodup := by
  have h1 : ((List.range g.sent).map Int.ofNat).Nodup := by
    unfold List.Nodup
    rw [List.pairwise_map]
    exact List.nodup_range.imp fun hab e => hab (Int.ofNat.inj e)
  have h2 := (h.rqs.nodup_iff).2 h1
  exact (List.nodup_append.1 h2).1
theorem GInv.one {g : GB} (h : GInv g) : ∀ a ∈ g.all, ∀ c ∈ g.all, a.2.1.ord = c.2.1.ord → a = c := fun a ha c hc e => by
  obtain ⟨i, hi, rfl⟩ := List.mem_iff_getElem.1 ha
  obtain ⟨j, hj, rfl⟩ := List.mem_iff_getElem.1 hc
  have hn := h.nodup
  unfold List.Nodup at hn
  rw [List.pairwise_map, List.pairwise_iff_getElem] at hn
  rcases Nat.lt_trichotomy i j with hlt | rfl | hlt
  · exact absurd e (hn i j hi hj hlt)
  · rfl
  · exact absurd e.symm (hn j i hj hi hlt)
theorem GInv.few {g : GB} (h : GInv g) : g.all.length ≤ g.sent := by
  have := h.rqs.length_eq
  simp only [List.length_append, List.length_map, List.length_range] at this
  omega
theorem stepG_sent {g : GB} {x : PE} (h : OkX g x) : (stepG g x).sent = g.sent + 1 := by
  obtain ⟨p, _, _, _, e⟩ := h.get
  rw [e]; rfl
/-- Every request is taken. -/
def OkRun (g : GB) (xs : List PE) : Prop := ∀ i x, xs[i]? = some x → OkX (runG g (xs.take i)) x
theorem runG_next {g : GB} {xs : List PE} {i : Nat} {x : PE} (h : xs[i]? = some x) : runG g (xs.take (i + 1)) = stepG (runG g (xs.take i)) x := by
  rw [List.take_add_one, h]
  exact runG_snoc _ _ _
theorem ginv_run {g : GB} {xs : List PE} (h0 : GInv g) (n : Nat) (hok : ∀ i x, i < n → xs[i]? = some x → OkX (runG g (xs.take i)) x) : ∀ i, i ≤ n → i ≤ xs.length → GInv (runG g (xs.take i)) ∧ (runG g (xs.take i)).sent = g.sent + i
  | 0, _, _ => ⟨h0, rfl⟩
  | i + 1, hi, hl => by
    obtain ⟨h1, h2⟩ := ginv_run h0 n hok i (by omega) (by omega)
    have hx : xs[i]? = some xs[i] := List.getElem?_eq_getElem (by omega)
    rw [runG_next hx]
    exact ⟨h1.step (hok i _ (by omega) hx), by rw [stepG_sent (hok i _ (by omega) hx), h2]; omega⟩
/-- Send, at a request that is taken. -/
theorem gst_take {w : World} {b : Nat} {g : GB} {wr : World} (h : GSt w b g wr) (hi : GInv g) (hs : g.sent < 100) {x : PE} (hok : OkX g x) (hdat : Held w.heap.size 5 w x.q.dv (bytes x.q.data)) :
    Calls Try.prog 28 #[ptr b, .int .i64 x.dev, .int .i64 x.at_, .agg #[.int .i64 x.q.pk, .int .i64 x.q.do_, .int .i64 x.q.a_, .int .i64 x.q.b_, slv x.q.dv]] wr fun e w' => e = .returned (.int .i64 0) ∧ GSt w b (stepG g x) w' ∧ Frame3 wr w' := by
  obtain ⟨p, hp, h1, h2, e⟩ := hok.get
  have hi2 := (hi.step hok).one
  rw [e] at hi2 ⊢
  obtain ⟨⟨hd, _⟩, hn, ht, _, hl⟩ := hok
  have hpm : p ∈ g.ds := List.mem_of_getElem? hp
  have := gst_send w b g wr h (x.dev - 1).toNat p hp (hi.inv p hpm) hs x.at_ x.q.pk x.q.do_ x.q.a_ x.q.b_ x.q.dv x.q.data hdat hl hn (Int.le_trans hi.now0 hn) ht ⟨h1, h2⟩ (by have := hi.few; omega) hi2
  rw [show (((x.dev - 1).toNat : Int)) + 1 = x.dev by omega] at this
  exact this
theorem gst_turn {w : World} {b : Nat} {g : GB} {wr : World} (h : GSt w b g wr) (hs : g.sent < 100) {x : PE} (hok : ¬ OkX g x) (hdl : x.q.dv.2.1 = x.q.data.length) :
    Calls Try.prog 28 #[ptr b, .int .i64 x.dev, .int .i64 x.at_, .agg #[.int .i64 x.q.pk, .int .i64 x.q.do_, .int .i64 x.q.a_, .int .i64 x.q.b_, slv x.q.dv]] wr fun e w' => ∃ c : Int, c ≠ 0 ∧ e = .returned (.int .i64 c) ∧ Below wr.heap.size wr w' :=
  gst_refuse w b g wr h hs x.dev x.at_ x.q.pk x.q.do_ x.q.a_ x.q.b_ x.q.dv _ hdl hok
/-- The bus that New made. -/
def g0 (ds : List PDv) : GB := ⟨ds, 0, 0, []⟩
theorem sortG_nil : sortG [] = [] := List.Perm.eq_nil (sortG_perm [])
theorem MkG.gst {w w' : World} {vd : Sl} {vs : List Value} {ds : List PDv} {Ss : List (Nat → Prop)} {b : Nat} (h : MkG w.heap.size b w' vd vs ds Ss) (hb : Below w.heap.size w w') : GSt w b (g0 ds) w' := by
  refine ⟨⟨vd, vs, 0, 0, 0, (none, 0, 0), []⟩, Ss, ⟨⟨h.low, h.cells, own_base h.row h.low, RowO.none_ _⟩, h.len1, h.len2, h.dev, h.apart⟩, rfl, rfl, rfl, ?_, hb⟩
  show All2 _ [] (sortG [])
  rw [sortG_nil]
  exact All2.nil_
theorem isB_zeros : IsB zeros := ⟨List.replicate 64 0, by unfold zeros bytes; rw [List.map_replicate], by decide⟩
theorem build_byt {c : Cf} {p : PDv} (hp : buildF c = some p) : PByt p ∧ waitQ p = [] := by
  unfold buildF at hp
  split at hp
  · cases hp
  split at hp
  · injection hp with hp; subst hp; exact ⟨trivial, rfl⟩
  split at hp
  · split at hp
    · injection hp with hp
      subst hp
      exact ⟨fun x hx => by rw [(List.mem_replicate.1 hx).2]; exact isB_zeros, rfl⟩
    · cases hp
  split at hp
  · split at hp
    · injection hp with hp; subst hp; exact ⟨trivial, rfl⟩
    · cases hp
  split at hp
  · injection hp with hp
    subst hp
    exact ⟨(fun x hx => by cases hx), rfl⟩
  · cases hp
theorem ginv0 {ds : List PDv} (h : ∀ p ∈ ds, PInv 0 p ∧ PByt p ∧ waitQ p = []) : GInv (g0 ds) := by
  refine ⟨fun p hp => (h p hp).1, fun p hp => (h p hp).2.1, ?_, Int.le_refl 0, fun o ho => by cases ho⟩
  have : ds.flatMap ordsOf = [] := by
    rw [List.flatMap_eq_nil_iff]
    intro p hp
    unfold ordsOf
    rw [(h p hp).2.2]; rfl
  show ([] ++ ds.flatMap ordsOf).Perm []
  rw [this]
  exact List.Perm.refl _
end Go.Proofs.Ytkdnkjjnmadhgaa.Dev
