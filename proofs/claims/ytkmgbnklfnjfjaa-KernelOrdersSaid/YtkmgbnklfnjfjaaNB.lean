import Derived.Test.YtkmgbnklfnjfjaaLD
/-! KernelOrders: the plain law. -/
namespace Go.Proofs.Ytkmgbnklfnjfjaa.Ker
open Go.RowKit Go.Maps

abbrev Tr := Int × Int × Int
/-- What s sent to d, in order. -/
def fil (sent : List Tr) (s d : Int) : List Int := (sent.filter fun x => x.1 == s && x.2.1 == d).map fun x => x.2.2
/-- What of s is in the queue of the task d. -/
def qf (a : A) (s d : Int) : List Int := if d ∈ a.tids then (a.q d).filter (fun p => (a.pk p).frm == s) else []
structure Ord (a : A) (sent : List Tr) : Prop where
  eq : ∀ s d, 0 ≤ s → 0 < d → fil sent s d = qf a s d
  nz : ∀ x ∈ sent, x.2.2 ≠ 0

theorem filter_same {l : List Int} {f g : Int → Bool} (h : ∀ p ∈ l, f p = g p) : l.filter f = l.filter g := List.filter_congr h
theorem qf_same {a b : A} {s d : Int} (ht : d ∈ b.tids ↔ d ∈ a.tids) (hq : b.q d = a.q d) (hp : d ∈ a.tids → ∀ p ∈ a.q d, (b.pk p).frm = (a.pk p).frm) : qf b s d = qf a s d := by
  unfold qf
  by_cases h : d ∈ a.tids
  · rw [if_pos h, if_pos (ht.2 h), hq]
    exact filter_same (fun p hpq => by rw [hp h p hpq])
  · rw [if_neg h, if_neg (fun h' => h (ht.1 h'))]
theorem Ord.same {a b : A} {sent : List Tr} (h : Ord a sent) (hq : ∀ s d, 0 ≤ s → 0 < d → qf b s d = qf a s d) : Ord b sent := ⟨fun s d hs hd => (h.eq s d hs hd).trans (hq s d hs hd).symm, h.nz⟩
/-- Calls that leave queues and senders alone. -/
theorem Ord.still {a b : A} {sent : List Tr} (h : Ord a sent) (ht : b.tids = a.tids) (hq : b.q = a.q) (hp : b.pk = a.pk) : Ord b sent :=
  h.same (fun s d _ _ => qf_same (by rw [ht]) (by rw [hq]) (fun _ p _ => by rw [hp]))
theorem ord0 : Ord A0 [] := ⟨fun s d _ _ => by simp [fil, qf, A0], fun x hx => by cases hx⟩

def scan1 (f o : Int) (st : Int × List Tr) (x : Tr) : Int × List Tr := if st.1 = 0 ∧ x.1 = f ∧ x.2.1 = o then (x.2.2, st.2) else (st.1, st.2 ++ [x])
/-- The first that f sent to o, and the rest. -/
def scan (f o : Int) (l : List Tr) : Int × List Tr := l.foldl (scan1 f o) (0, [])
theorem scan_snoc (f o : Int) (l : List Tr) (x : Tr) : scan f o (l ++ [x]) = scan1 f o (scan f o l) x := by unfold scan; rw [List.foldl_append]; rfl
theorem scan_done (f o v : Int) (hv : v ≠ 0) : ∀ (l r : List Tr), l.foldl (scan1 f o) (v, r) = (v, r ++ l)
  | [], r => by simp
  | x :: l, r => by
    rw [List.foldl_cons]
    have : scan1 f o (v, r) x = (v, r ++ [x]) := by unfold scan1; rw [if_neg (fun h => hv h.1)]
    rw [this, scan_done f o v hv l (r ++ [x])]
    simp
theorem fil_app (l r : List Tr) (s d : Int) : fil (l ++ r) s d = fil l s d ++ fil r s d := by unfold fil; rw [List.filter_append, List.map_append]
theorem fil_one (x : Tr) (s d : Int) : fil [x] s d = if x.1 = s ∧ x.2.1 = d then [x.2.2] else [] := by
  unfold fil
  by_cases h : x.1 = s ∧ x.2.1 = d
  · rw [if_pos h]
    simp [h.1, h.2]
  · rw [if_neg h]
    have : (x.1 == s && x.2.1 == d) = false := by
      rw [Bool.eq_false_iff]
      intro hh
      simp at hh
      exact h hh
    simp [this]
theorem scan_first (f o v : Int) (t : List Int) : ∀ (l r : List Tr), (∀ x ∈ l, x.2.2 ≠ 0) → fil l f o = v :: t →
    (l.foldl (scan1 f o) (0, r)).1 = v ∧ ∀ s d, fil (l.foldl (scan1 f o) (0, r)).2 s d = fil r s d ++ (if s = f ∧ d = o then t else fil l s d)
  | [], r, _, h => by simp [fil] at h
  | x :: l, r, hn, h => by
    have e1 : x :: l = [x] ++ l := rfl
    rw [e1, fil_app, fil_one] at h
    by_cases hx : x.1 = f ∧ x.2.1 = o
    · rw [if_pos hx] at h
      simp only [List.cons_append, List.nil_append, List.cons.injEq] at h
      have hst : scan1 f o (0, r) x = (x.2.2, r) := by unfold scan1; rw [if_pos ⟨rfl, hx⟩]
      rw [List.foldl_cons, hst, scan_done _ _ _ (hn x (by simp))]
      refine ⟨h.1, fun s d => ?_⟩
      rw [fil_app]
      by_cases hs : s = f ∧ d = o
      · rw [if_pos hs, hs.1, hs.2, h.2]
      · rw [if_neg hs, e1, fil_app, fil_one, if_neg (fun hh => hs ⟨hh.1.symm.trans hx.1, hh.2.symm.trans hx.2⟩)]
        simp
    · rw [if_neg hx] at h
      have hst : scan1 f o (0, r) x = (0, r ++ [x]) := by unfold scan1; rw [if_neg (fun hh => hx hh.2)]
      rw [List.foldl_cons, hst]
      obtain ⟨h1, h2⟩ := scan_first f o v t l (r ++ [x]) (fun y hy => hn y (by simp [hy])) (by simpa using h)
      refine ⟨h1, fun s d => ?_⟩
      rw [h2, fil_app, e1, fil_app]
      by_cases hs : s = f ∧ d = o
      · rw [if_pos hs, if_pos hs, fil_one, if_neg (fun hh => hx ⟨hh.1.trans hs.1, hh.2.trans hs.2⟩)]
        simp
      · rw [if_neg hs, if_neg hs, List.append_assoc]
theorem scan_mem (f o : Int) : ∀ (l r : List Tr) (v : Int) (y : Tr), y ∈ (l.foldl (scan1 f o) (v, r)).2 → y ∈ r ∨ y ∈ l
  | [], r, v, y, h => .inl h
  | x :: l, r, v, y, h => by
    rw [List.foldl_cons] at h
    unfold scan1 at h
    split at h
    · rcases scan_mem f o l _ _ y h with h | h
      · exact .inl h
      · exact .inr (by simp [h])
    · rcases scan_mem f o l _ _ y h with h | h
      · rcases List.mem_append.1 h with h | h
        · exact .inl h
        · exact .inr (by simp at h; simp [h])
      · exact .inr (by simp [h])

/-- A packet that is in no queue. -/
theorem free_out {a : A} (gd : Good a) {p : Int} (h : (a.pk p).at_ = 0) {d : Int} (hd : a.owner d) : p ∉ a.q d := fun hp => by
  have h1 := (gd.qin d hd p hp).2
  have h2 := gd.own_ne hd
  omega
theorem ord_create {a : A} {sent : List Tr} (h : Ord a sent) (x y : Int) (hx : x ∉ a.tids) : Ord (createA a x y) sent := by
  refine h.same (fun s d _ _ => ?_)
  by_cases hd : d = x
  · subst hd
    unfold qf
    rw [if_neg hx]
    simp [createA, upd_same]
  · exact qf_same (by simp [createA, hd]) (by simp [createA, upd_other _ _ hd]) (fun _ p _ => rfl)
theorem ord_remove {a : A} {sent : List Tr} (h : Ord a sent) (x : Int) (hq : a.q x = []) : Ord (removeA a x) sent := by
  refine h.same (fun s d _ _ => ?_)
  by_cases hd : d = x
  · subst hd
    unfold qf
    rw [hq]
    simp [removeA]
  · exact qf_same (by simp [removeA, hd]) rfl (fun _ p _ => by simp only [removeA, lostP]; split <;> rfl)
theorem ord_pack {a : A} {sent : List Tr} (gd : Good a) (h : Ord a sent) (r x : Int) : Ord (packA a r x) sent := by
  refine h.same (fun s d _ _ => qf_same Iff.rfl rfl (fun hd p hp => ?_))
  have h1 := gd.pkr p (gd.qin d (.inl hd) p hp).1
  simp only [packA]
  rw [upd_other _ _ (by omega)]
/-- A packet that is in no queue goes to a queue. -/
theorem ord_move {a : A} {sent : List Tr} (gd : Good a) (h : Ord a sent) (p f to : Int) (hp : (a.pk p).at_ = 0) (hpz : p ≠ 0) (hto : to ∈ a.tids ∨ to ∈ devs) : Ord (moveA a p f to) (if 0 < to ∧ 0 ≤ f then sent ++ [(f, to, p)] else sent) := by
  have key : ∀ s d, 0 ≤ s → 0 < d → qf (moveA a p f to) s d = qf a s d ++ (if f = s ∧ to = d then [p] else []) := by
    intro s d hs hd
    by_cases ht : d ∈ a.tids
    · have hpd := free_out gd hp (d := d) (.inl ht)
      unfold qf
      rw [if_pos ht, if_pos (show d ∈ (moveA a p f to).tids from ht)]
      have e1 : ∀ q ∈ a.q d, ((moveA a p f to).pk q).frm = (a.pk q).frm := fun q hq => by
        simp only [moveA]
        rw [upd_other _ _ (show q ≠ p from fun e => hpd (e ▸ hq))]
      by_cases hdt : to = d
      · subst hdt
        have e2 : (moveA a p f to).q to = a.q to ++ [p] := by simp [moveA, upd_same]
        rw [e2, List.filter_append]
        congr 1
        · exact filter_same (fun q hq => by rw [e1 q hq])
        · have e3 : ((moveA a p f to).pk p).frm = f := by simp [moveA, upd_same]
          by_cases hfs : f = s
          · subst hfs
            simp [e3]
          · simp [e3, hfs]
      · have e2 : (moveA a p f to).q d = a.q d := by simp only [moveA]; rw [upd_other _ _ (fun e => hdt e.symm)]
        rw [e2, if_neg (fun hh => hdt hh.2), List.append_nil]
        exact filter_same (fun q hq => by rw [e1 q hq])
    · have hdt : to ≠ d := fun e => by
        rcases hto with ht' | ht'
        · exact ht (e ▸ ht')
        · have := dev_neg ht'; omega
      unfold qf
      rw [if_neg ht, if_neg (show d ∉ (moveA a p f to).tids from ht), if_neg (fun hh => hdt hh.2)]
      rfl
  split
  · rename_i hc
    refine ⟨fun s d hs hd => ?_, fun x hx => ?_⟩
    · rw [key s d hs hd, fil_app, h.eq s d hs hd, fil_one]
    · rcases List.mem_append.1 hx with hx | hx
      · exact h.nz x hx
      · rw [List.mem_singleton.1 hx]; exact hpz
  · rename_i hc
    refine h.same (fun s d hs hd => ?_)
    rw [key s d hs hd, if_neg (fun hh => hc (by omega)), List.append_nil]
/-- A packet is taken out of the queue of a device. -/
theorem ord_drop {a : A} {sent : List Tr} (h : Ord a sent) (x p : Int) (hx : x ∈ devs) : Ord (dropA a x p) sent := by
  refine h.same (fun s d _ hd => qf_same Iff.rfl ?_ (fun _ q _ => ?_))
  · have := dev_neg hx
    simp only [dropA]
    rw [upd_other _ _ (by omega)]
  · simp only [dropA]
    by_cases hq : q = p
    · subst hq; rw [upd_same]
    · rw [upd_other _ _ hq]
theorem ord_res {a : A} {sent : List Tr} (h : Ord a sent) (p y : Int) : Ord (resA a p y) sent := by
  refine h.same (fun s d _ _ => qf_same Iff.rfl rfl (fun _ q _ => ?_))
  simp only [resA]
  by_cases hq : q = p
  · subst hq; rw [upd_same]
  · rw [upd_other _ _ hq]
/-- A task takes the first packet of its queue. -/
theorem ord_own {a : A} {sent : List Tr} (gd : Good a) (h : Ord a sent) (p r : Int) (l : List Int) (hr : r ∈ a.tids) (hq : a.q r = p :: l) :
    ((a.pk p).frm < 0 → Ord (ownA a p r) sent) ∧ (0 ≤ (a.pk p).frm → (scan (a.pk p).frm r sent).1 = p ∧ Ord (ownA a p r) (scan (a.pk p).frm r sent).2) := by
  have hat := (gd.qin r (.inl hr) p (by rw [hq]; simp)).2
  have hnd := gd.qnd r (.inl hr)
  have hr0 := gd.trng r hr
  rw [hq] at hnd
  have hpl : p ∉ l := (List.nodup_cons.1 hnd).1
  have hfrm : ∀ q, ((ownA a p r).pk q).frm = (a.pk q).frm := fun q => by
    simp only [ownA]
    by_cases hqp : q = p
    · subst hqp; rw [upd_same]
    · rw [upd_other _ _ hqp]
  have hqr : (ownA a p r).q r = l := by
    simp only [ownA]
    rw [hat, upd_same, hq]
    rw [List.filter_cons]
    simp only [bne_self_eq_false, Bool.false_eq_true, if_false]
    exact List.filter_eq_self.2 (fun x hx => by simp; exact fun e => hpl (e ▸ hx))
  have key : ∀ s d, 0 < d → qf a s d = if s = (a.pk p).frm ∧ d = r then p :: qf (ownA a p r) s d else qf (ownA a p r) s d := by
    intro s d hd
    by_cases hdr : d = r
    · subst hdr
      unfold qf
      rw [if_pos hr, if_pos (show d ∈ (ownA a p d).tids from hr), hqr, hq, List.filter_cons]
      have e : l.filter (fun p_1 => ((ownA a p d).pk p_1).frm == s) = l.filter (fun p_1 => (a.pk p_1).frm == s) := filter_same (fun q _ => by rw [hfrm])
      rw [e]
      by_cases hs : s = (a.pk p).frm
      · rw [if_pos (by simp [hs]), if_pos ⟨hs, rfl⟩]
      · rw [if_neg (by simp; exact fun e => hs e.symm), if_neg (fun hh => hs hh.1)]
    · rw [if_neg (fun hh => hdr hh.2)]
      refine (qf_same (a := a) (b := ownA a p r) Iff.rfl ?_ (fun _ q _ => hfrm q)).symm
      simp only [ownA]
      rw [hat, upd_other _ _ hdr]
  refine ⟨fun hneg => h.same (fun s d hs hd => ?_), fun hpos => ?_⟩
  · rw [key s d hd, if_neg (fun hh => by omega)]
  · have h1 := h.eq (a.pk p).frm r hpos (by omega)
    rw [key _ _ (by omega), if_pos ⟨rfl, rfl⟩] at h1
    obtain ⟨h2, h3⟩ := scan_first (a.pk p).frm r p _ sent [] h.nz h1
    refine ⟨h2, ⟨fun s d hs hd => ?_, fun x hx => ?_⟩⟩
    · have h4 := h3 s d
      have e0 : fil ([] : List Tr) s d = [] := rfl
      rw [e0, List.nil_append] at h4
      have h5 : fil (scan (a.pk p).frm r sent).2 s d = if s = (a.pk p).frm ∧ d = r then qf (ownA a p r) (a.pk p).frm r else fil sent s d := h4
      rw [h5]
      by_cases hc : s = (a.pk p).frm ∧ d = r
      · rw [if_pos hc, hc.1, hc.2]
      · rw [if_neg hc, h.eq s d hs hd, key s d hd, if_neg hc]
    · rcases scan_mem _ _ _ _ _ _ hx with h | h'
      · cases h
      · exact h.nz x h'

/-- What a call that is played means for what was sent. -/
structure OrdStep (r : Int) (c : C3) (s : S) (sent : List Tr) : Prop where
  err : s.2.1 ≠ 0 → Ord s.2.2 sent
  send : s.2.1 = 0 → c.1 = 3 → 0 < c.2.2 → Ord s.2.2 (sent ++ [(r, c.2.2, c.2.1)])
  take : s.2.1 = 0 → c.1 = 4 → 0 < s.1 → s.1 ∈ s.2.2.pids ∧ ((s.2.2.pk s.1).frm < 0 → Ord s.2.2 sent) ∧ (0 ≤ (s.2.2.pk s.1).frm → (scan (s.2.2.pk s.1).frm r sent).1 = s.1 ∧ Ord s.2.2 (scan (s.2.2.pk s.1).frm r sent).2)
  rest : s.2.1 = 0 → ¬ (c.1 = 3 ∧ 0 < c.2.2) → ¬ (c.1 = 4 ∧ 0 < s.1) → Ord s.2.2 sent
theorem OrdStep.plain {r : Int} {c : C3} {s : S} {sent : List Tr} (h : Ord s.2.2 sent) (h3 : c.1 ≠ 3 ∨ s.2.1 ≠ 0) (h4 : c.1 ≠ 4 ∨ s.2.1 ≠ 0 ∨ ¬ 0 < s.1) : OrdStep r c s sent :=
  ⟨fun _ => h, fun h0 h1 _ => absurd h1 (h3.resolve_right (fun hh => hh h0)), fun h0 h1 h2 => by
    rcases h4 with h4 | h4 | h4
    · exact absurd h1 h4
    · exact absurd h0 h4
    · exact absurd h2 h4, fun _ _ _ => h⟩
theorem ord_step {a : A} {sent : List Tr} (gd : Good a) (h : Ord a sent) (r d x y : Int) (hr : r ∈ a.tids ∨ d = 1 ∨ d = 12) (h13 : d ≠ 13) (h10 : d ≠ 10) : OrdStep r (d, x, y) (stepA a r d x y) sent := by
  unfold stepA
  by_cases e1 : d = 1
  · rw [if_pos e1]
    refine .plain ?_ (.inl (by simp; omega)) (.inl (by simp; omega))
    unfold createS
    split
    · split
      · exact h
      · split
        · exact h
        · rename_i hx _
          exact ord_create h x y hx
    · exact h
  rw [if_neg e1]
  by_cases e2 : d = 2
  · rw [if_pos e2]
    refine .plain ?_ (.inl (by simp; omega)) (.inl (by simp; omega))
    unfold removeS
    split
    · split
      · split
        · exact h
        · rename_i hq _
          exact ord_remove h x hq
      · exact h
    · exact h
  rw [if_neg e2]
  by_cases e3 : d = 3
  · rw [if_pos e3]
    have hr := hr.resolve_right (by omega)
    have hr0 := gd.trng r hr
    unfold sendS
    split
    · rename_i hx
      split
      · rename_i hw
        split
        · exact .plain h (.inr (by simp)) (.inl (by simp; omega))
        · split
          · rename_i hto
            have hat : (a.pk x).at_ = 0 := by
              by_cases hz : (a.pk x).at_ = 0
              · exact hz
              · have := gd.wth0 x hx hz; omega
            have hx0 := gd.pkr x hx
            have hm := ord_move gd h x r y hat (by omega) hto
            refine ⟨fun hh => absurd rfl hh, fun _ _ hy => ?_, fun _ h4 _ => absurd h4 (by simp; omega), fun _ h3 _ => ?_⟩
            · rw [if_pos ⟨hy, by omega⟩] at hm
              exact hm
            · rw [if_neg (fun hh => h3 ⟨e3, hh.1⟩)] at hm
              exact hm
          · exact .plain h (.inr (by simp)) (.inl (by simp; omega))
      · exact .plain h (.inr (by simp)) (.inl (by simp; omega))
    · exact .plain h (.inr (by simp)) (.inl (by simp; omega))
  rw [if_neg e3]
  by_cases e4 : d = 4
  · rw [if_pos e4]
    have hr := hr.resolve_right (by omega)
    unfold takeS
    split
    · exact .plain (h.still rfl rfl rfl) (.inl (by simp; omega)) (.inr (.inr (by simp)))
    · rename_i p l hq
      have hp := gd.qin r (.inl hr) p (by rw [hq]; simp)
      have hp0 := gd.pkr p hp.1
      obtain ⟨h1, h2⟩ := ord_own gd h p r l hr hq
      have hf : ((ownA a p r).pk p).frm = (a.pk p).frm := by simp [ownA, upd_same]
      refine ⟨fun hh => absurd rfl hh, fun _ h3 _ => absurd h3 (by simp; omega), fun _ _ _ => ⟨hp.1, ?_, ?_⟩, fun _ _ h4 => absurd ⟨e4, by show 0 < p; omega⟩ h4⟩
      · show ((ownA a p r).pk p).frm < 0 → _
        rw [hf]
        exact h1
      · show 0 ≤ ((ownA a p r).pk p).frm → (scan ((ownA a p r).pk p).frm r sent).1 = p ∧ Ord (ownA a p r) (scan ((ownA a p r).pk p).frm r sent).2
        rw [hf]
        exact h2
  rw [if_neg e4]
  refine .plain ?_ (.inl (by simp; omega)) (.inl (by simp; omega))
  by_cases e5 : d = 5
  · rw [if_pos e5]
    unfold heldS
    split
    · exact h.still rfl rfl rfl
    · exact h
  rw [if_neg e5]
  by_cases e6 : d = 6
  · rw [if_pos e6]
    unfold heldS
    split
    · exact h.still rfl rfl rfl
    · exact h
  rw [if_neg e6]
  by_cases e7 : d = 7
  · rw [if_pos e7]
    unfold setS
    split
    · split
      · exact h.still rfl rfl rfl
      · exact h
    · exact h
  rw [if_neg e7]
  by_cases e8 : d = 8
  · rw [if_pos e8]
    unfold testS
    split
    · exact h.still rfl rfl rfl
    · exact h
  rw [if_neg e8]
  by_cases e9 : d = 9
  · rw [if_pos e9]
    unfold priS
    split
    · split
      · split
        · exact h
        · exact h.still rfl rfl rfl
      · exact h
    · exact h
  rw [if_neg e9, if_neg h10]
  by_cases e11 : d = 11
  · rw [if_pos e11]
    unfold packetS
    split
    · exact h
    · exact ord_pack gd h r x
  rw [if_neg e11]
  by_cases e12 : d = 12
  · rw [if_pos e12]
    unfold deviceS
    split
    · rename_i hx
      split
      · exact h
      · rename_i p l hq
        have hown : a.owner x := .inr hx
        have hp := gd.qin x hown p (by rw [hq]; simp)
        have hp0 := gd.pkr p hp.1
        have gdr := good_drop gd x p hown (by rw [hq]; simp)
        have hdr := ord_drop h x p hx
        split
        · rename_i hf
          have h1 := ord_res hdr p y
          have g1 := good_res gdr p y
          have hat : ((resA (dropA a x p) p y).pk p).at_ = 0 := by simp [resA, dropA, upd_same]
          have := ord_move g1 h1 p x (a.pk p).frm hat (by omega) (.inl hf)
          rw [if_neg (show ¬ (0 < (a.pk p).frm ∧ 0 ≤ x) from fun hh => by simp [devs] at hx; omega)] at this
          exact this
        · exact hdr
    · exact h
  rw [if_neg e12, if_neg h13]
  exact h
theorem ord_do {a : A} {sent : List Tr} (gd : Good a) (h : Ord a sent) (c : C3) (h13 : c.1 ≠ 13) (h10 : c.1 ≠ 10) : OrdStep (runF a) c (doF a c) sent := by
  obtain ⟨d, x, y⟩ := c
  have hb : Ord (bump a) sent := h.still rfl rfl rfl
  have gb : Good (bump a) := gd.calls _ (by omega)
  have e : runF (bump a) = runF a := rfl
  unfold doF doA
  simp only [e]
  split
  · exact .plain hb (.inr (by simp)) (.inr (.inl (by simp)))
  · split
    · exact .plain hb (.inr (by simp)) (.inr (.inl (by simp)))
    · rename_i h1 h2
      refine ord_step gb hb (runF a) d x y ?_ h13 h10
      rcases runF_in gd with h0 | h0
      · by_cases hd : d = 12
        · exact .inr (.inr hd)
        · refine .inr (.inl ?_)
          by_cases hd1 : d = 1
          · exact hd1
          · exact absurd ⟨h0, hd, .inl hd1⟩ h2
      · exact .inl h0
end Go.Proofs.Ytkmgbnklfnjfjaa.Ker
