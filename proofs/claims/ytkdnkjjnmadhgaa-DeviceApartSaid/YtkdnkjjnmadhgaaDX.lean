import Derived.Test.YtkdnkjjnmadhgaaDK
import Derived.Test.YtkdnkjjnmadhgaaDL
set_option linter.unusedVariables false
set_option linter.unusedSimpArgs false
/-! Rows of replies that are sorted, as lists. -/
namespace Go.Proofs.Ytkdnkjjnmadhgaa.Dev
open Go.RowKit Go.Maps Go.Lib Go.Shelf Go.Sort

theorem mg_list {rs : List Rp} {dk : Array Rp} (h : Mg (ltOf cmpR) 0 dk.size rs.toArray dk) : dk.toList.Perm rs ∧ dk.toList.Pairwise (fun x y => ¬ RLt y x) := by
  obtain ⟨hp, hs⟩ := h
  have hsz : dk.size = rs.length := by have := hp.1; simpa using this
  constructor
  · have h1 := hp.2.2
    have h2 : (dk.toList.take rs.length).Perm rs := by simpa [hsz] using h1
    rwa [List.take_of_length_le (by simp [hsz])] at h2
  · rw [List.pairwise_iff_getElem]
    intro i j hi hj hij
    have h1 := hs i j (Nat.zero_le _) hij (by simpa using hj)
    rw [nltR] at h1
    have e : ∀ k (hk : k < dk.toList.length), dk[k]! = dk.toList[k] := fun k hk => by
      have : k < dk.size := by simpa using hk
      simp [this]
    rw [e i hi, e j hj] at h1
    exact h1
/-- The one list that is sorted. -/
theorem sorted_one : ∀ {l m : List Rp}, l.Perm m → l.Pairwise (fun x y => ¬ RLt y x) → m.Pairwise (fun x y => ¬ RLt y x) → (∀ x ∈ l, ∀ y ∈ l, ¬ RLt x y → ¬ RLt y x → x = y) → l = m
  | [], m, hp, _, _, _ => (List.Perm.nil_eq hp)
  | x :: l, [], hp, _, _, _ => by simp at hp
  | x :: l, y :: m, hp, hl, hm, hu => by
    have hxy : x = y := by
      by_cases e : x = y
      · exact e
      have hy : y ∈ l := by
        have : y ∈ x :: l := hp.mem_iff.2 (by simp)
        rcases List.mem_cons.1 this with h | h
        · exact absurd h.symm e
        · exact h
      have hx : x ∈ m := by
        have : x ∈ y :: m := hp.mem_iff.1 (by simp)
        rcases List.mem_cons.1 this with h | h
        · exact absurd h e
        · exact h
      have h1 := (List.pairwise_cons.1 hl).1 y hy
      have h2 := (List.pairwise_cons.1 hm).1 x hx
      exact hu x (by simp) y (by simp [hy]) h2 h1
    subst hxy
    rw [sorted_one ((List.perm_cons x).1 hp) (List.pairwise_cons.1 hl).2 (List.pairwise_cons.1 hm).2 fun a ha b hb => hu a (by simp [ha]) b (by simp [hb])]
end Go.Proofs.Ytkdnkjjnmadhgaa.Dev
/-! A bus with one disk: a request is handed in. -/
namespace Go.Proofs.Ytkdnkjjnmadhgaa.Dev
open Go.RowKit Go.Maps Go.Lib Go.Shelf Go.Sort

theorem DRep.own_tys {B : Nat} {w : World} {d : Nat} {m : DM} {p : PD} (h : DRep B w d m p) {k : Nat} (ho : OwnD d m k) : B ≤ k ∧ ∃ cur ty, w.heap[k]? = some (.cells cur ty (0, 0)) ∧ (ty = 106 ∨ ty = 39 ∨ ty = 116) := by
  rcases ho with rfl | ho | ho | ho
  · exact ⟨h.low, _, _, h.cells, .inl rfl⟩
  · obtain ⟨hb, cur, hh⟩ := own_block h.rb ho
    exact ⟨hb, _, _, hh, .inr (.inl rfl)⟩
  · obtain ⟨hb, cur, hh⟩ := own_block h.ro ho
    exact ⟨hb, _, _, hh, .inr (.inl rfl)⟩
  · obtain ⟨hb, cur, hh⟩ := own_block h.rw ho
    exact ⟨hb, _, _, hh, .inr (.inr rfl)⟩
/-- What touches rows of other types alone. -/
theorem DRep.touch {B : Nat} {w w' : World} {d : Nat} {m : DM} {p : PD} {S : Nat → Prop} (h : DRep B w d m p) (ht : Touch w w' S) (hs : ∀ k, S k → B ≤ k ∧ ∃ cur ty, w.heap[k]? = some (.cells cur ty (0, 0)) ∧ (ty = 80 ∨ ty = 95)) : DRep B w' d m p :=
  h.keep fun k hk ho => ht.block k hk fun e => by
    obtain ⟨hb, cur, ty, hc, hty⟩ := hs k e
    rcases ho with ho | ho
    · obtain ⟨_, cur', ty', hc', hty'⟩ := h.own_tys ho
      rw [hc] at hc'
      simp at hc'
      obtain ⟨_, rfl⟩ := hc'
      rcases hty with rfl | rfl <;> simp at hty'
    · rcases ho with ho | ⟨cur', ty', hc', hty'⟩
      · omega
      · rw [hc] at hc'
        simp at hc'
        obtain ⟨_, rfl⟩ := hc'
        rcases hty with rfl | rfl <;> simp at hty'
theorem Held.touch5 {B : Nat} {w w' : World} {v : Sl} {xs : List Value} {S : Nat → Prop} (h : Held B 5 w v xs) (ht : Touch w w' S) (hs : ∀ k, S k → B ≤ k ∧ ∃ cur ty, w.heap[k]? = some (.cells cur ty (0, 0)) ∧ ty ≠ 5) : Held B 5 w' v xs :=
  h.keep fun k hk ho => ht.block k hk fun e => by
    obtain ⟨hb, cur, ty, hc, hty⟩ := hs k e
    rcases ho with ho | ⟨cur', hc'⟩
    · omega
    · rw [hc] at hc'
      simp at hc'
      exact hty hc'.2
/-- A bus with one disk. -/
structure Sys (B : Nat) (w : World) (b d : Nat) (bm : BM) (dm : DM) (p : PD) : Prop where
  bus : BRep B w b bm
  disk : DRep B w d dm p
  ds : bm.ds = [.iface 81 (ptr d)]
theorem BRep.tys {B : Nat} {w : World} {b : Nat} {m : BM} (h : BRep B w b m) {k : Nat} (hk : k = b ∨ oblock (slv m.vr) = some k) : B ≤ k ∧ ∃ cur ty, w.heap[k]? = some (.cells cur ty (0, 0)) ∧ (ty = 80 ∨ ty = 95) := by
  rcases hk with rfl | hk
  · exact ⟨h.low, _, _, h.cells, .inl rfl⟩
  · obtain ⟨hb, cur, hh⟩ := h.rr.block hk
    exact ⟨hb, _, _, hh, .inr rfl⟩
/-- The blocks of a bus with one disk. -/
def SysB (b d : Nat) (bm : BM) (dm : DM) (k : Nat) : Prop := OwnD d dm k ∨ k = b ∨ oblock (slv bm.vr) = some k
theorem Sys.tys {B : Nat} {w : World} {b d : Nat} {bm : BM} {dm : DM} {p : PD} (h : Sys B w b d bm dm p) {k : Nat} (hk : SysB b d bm dm k) : B ≤ k ∧ ∃ cur ty, w.heap[k]? = some (.cells cur ty (0, 0)) ∧ (ty = 106 ∨ ty = 39 ∨ ty = 116 ∨ ty = 80 ∨ ty = 95) := by
  rcases hk with hk | hk
  · obtain ⟨h1, cur, ty, h2, h3⟩ := h.disk.own_tys hk
    exact ⟨h1, cur, ty, h2, by rcases h3 with rfl | rfl | rfl <;> simp⟩
  · obtain ⟨h1, cur, ty, h2, h3⟩ := h.bus.tys hk
    exact ⟨h1, cur, ty, h2, by rcases h3 with rfl | rfl <;> simp⟩
/-- The system stays while its blocks, and what nobody writes, stay. -/
theorem Sys.keep {B : Nat} {w w' : World} {b d : Nat} {bm : BM} {dm : DM} {p : PD} (h : Sys B w b d bm dm p) (hk : ∀ k, k < w.heap.size → (k < B ∨ ∃ cur ty, w.heap[k]? = some (.cells cur ty (0, 0)) ∧ (ty = 106 ∨ ty = 39 ∨ ty = 116 ∨ ty = 80 ∨ ty = 95 ∨ ty = 84 ∨ ty = 5 ∨ ty = 3)) → w'.heap[k]? = w.heap[k]?) : Sys B w' b d bm dm p := by
  refine ⟨h.bus.keep fun k hl ho => hk k hl ?_, h.disk.keep fun k hl ho => hk k hl ?_, h.ds⟩
  · rcases ho with ho | ho | ho
    · obtain ⟨_, cur, ty, h2, h3⟩ := h.bus.tys (.inl ho)
      exact .inr ⟨cur, ty, h2, by rcases h3 with rfl | rfl <;> simp⟩
    · obtain ⟨_, cur, h2⟩ := own_block h.bus.rd ho
      exact .inr ⟨cur, _, h2, by simp⟩
    · obtain ⟨_, cur, ty, h2, h3⟩ := h.bus.tys (.inr ho)
      exact .inr ⟨cur, ty, h2, by rcases h3 with rfl | rfl <;> simp⟩
  · rcases ho with ho | ho | ⟨cur, ty, h2, h3⟩
    · obtain ⟨_, cur, ty, h2, h3⟩ := h.disk.own_tys ho
      exact .inr ⟨cur, ty, h2, by rcases h3 with rfl | rfl | rfl <;> simp⟩
    · exact .inl ho
    · exact .inr ⟨cur, ty, h2, by rcases h3 with rfl | rfl <;> simp⟩

/-- What the bus with one disk is behind a request. -/
structure Sent (B : Nat) (w w' : World) (b d : Nat) (bm : BM) (dm : DM) (p' : PD) (at_ pk t res : Int) (xs : List Value) : Prop where
  ex : ∃ bm' dm' dv, Sys B w' b d bm' dm' p' ∧ Held B 5 w' dv xs ∧ bm'.now = at_ ∧ bm'.sent = bm.sent + 1 ∧ bm'.told = bm.told ∧ bm'.rs.Perm (bm.rs ++ [⟨pk, t, res, dv, 1, bm.sent⟩]) ∧ bm'.rs.Pairwise (fun x y => ¬ RLt y x)
  touch : Touch w w' (SysB b d bm dm)

theorem sys_send (w : World) (B b d : Nat) (bm : BM) (dm : DM) (p p' : PD) (h : Sys B w b d bm dm p) (at_ pk do_ a_ b_ : Int) (dv : Sl)
    (hat : bm.now ≤ at_) (hat1 : at_ ≤ 1000000000) (hdo : 1 ≤ do_ ∧ do_ ≤ 3) (hsent : 0 ≤ bm.sent ∧ bm.sent < 400) (hdata : dv.2.1 ≤ 4000) (hrs : bm.rs.length ≤ 100000) (t res : Int) (xs : List Value)
    (hsend : ∀ W', DRep B W' d dm p → Touch w W' (· = b) → Calls Try.prog 90 #[ptr d, .agg (encQ ⟨pk, do_, a_, b_, dv, at_, bm.sent⟩).toArray] W' fun e w'' => One B W' ⟨pk, do_, a_, b_, dv, at_, bm.sent⟩ t res xs e w'' ∧ (∃ dm', DRep B w'' d dm' p') ∧ Touch W' w'' (OwnD d dm)) :
    Calls Try.prog 28 #[ptr b, .int .i64 1, .int .i64 at_, .agg #[.int .i64 pk, .int .i64 do_, .int .i64 a_, .int .i64 b_, slv dv]] w fun e w' => e = .returned (.int .i64 0) ∧ Sent B w w' b d bm dm p' at_ pk t res xs := by
  have hne : ∀ k, OwnD d dm k → ∃ cur ty, w.heap[k]? = some (.cells cur ty (0, 0)) ∧ (ty = 106 ∨ ty = 39 ∨ ty = 116) := fun k hk => (h.disk.own_tys hk).2
  have hS := send_disk w B b d bm h.bus 1 at_ (by decide) (by rw [h.ds]; rfl) pk do_ a_ b_ dv hat hat1 hdo hsent hdata (OwnD d dm)
    (fun w'' l => ∃ dv', l = [⟨pk, t, res, dv', 0, bm.sent⟩] ∧ Held B 5 w'' dv' xs ∧ ∃ dm', DRep B w'' d dm' p')
    (fun k hk => by obtain ⟨cur, ty, hc, _⟩ := hne k hk; exact blt hc)
    (fun hk => by
      obtain ⟨cur, ty, hc, ht⟩ := hne b hk
      rw [h.bus.cells] at hc
      simp at hc
      obtain ⟨_, rfl⟩ := hc
      simp at ht)
    (fun g hg hk => by
      obtain ⟨cur, ty, hc, ht⟩ := hne g hk
      obtain ⟨_, cur', hc'⟩ := own_block h.bus.rd hg
      rw [hc] at hc'
      simp at hc'
      obtain ⟨_, rfl⟩ := hc'
      simp at ht)
    (fun g hg hk => by
      obtain ⟨cur, ty, hc, ht⟩ := hne g hk
      obtain ⟨_, cur', hc'⟩ := h.bus.rr.block hg
      rw [hc] at hc'
      simp at hc'
      obtain ⟨_, rfl⟩ := hc'
      simp at ht) hrs
    (fun W' hW' => by
      have hd' : DRep B W' d dm p := h.disk.touch hW' fun k hk => h.bus.tys (.inl hk)
      refine (hsend W' hd' hW').mono ?_
      rintro e w'' ⟨⟨g, dv', rfl, hg, hc, hh⟩, hdm, ht⟩
      exact ⟨[⟨pk, t, res, dv', 0, bm.sent⟩], _, rfl, by simp, by simp, Gave.of_one hg (by rw [List.flatMap_singleton]; exact hc), ht, dv', rfl, hh, hdm⟩)
  refine hS.mono ?_
  rintro e w' ⟨rfl, l, w1, bm', ⟨dv', rfl, hh, dm', hdm⟩, ⟨cb, hcb⟩, ht1, ht2, hbr, hH⟩
  have w1tys : ∀ (k : Nat) {cur : Array Value} {ty : TypeId}, B ≤ k → w.heap[k]? = some (.cells cur ty (0, 0)) → (ty = 80 ∨ ty = 95) → (k = b ∨ oblock (slv bm.vr) = some k) → B ≤ k ∧ ∃ cur ty, w1.heap[k]? = some (.cells cur ty (0, 0)) ∧ (ty = 80 ∨ ty = 95) := by
    intro k cur ty h1 h2 h3 hk
    by_cases hkb : k = b
    · subst hkb
      exact ⟨h1, cb, 80, hcb, .inl rfl⟩
    · refine ⟨h1, cur, ty, (ht1.block k (blt h2) fun e => ?_).trans h2, h3⟩
      rcases e with e | e
      · obtain ⟨cur', ty', hc', ht'⟩ := hne k e
        rw [h2] at hc'
        simp at hc'
        obtain ⟨_, rfl⟩ := hc'
        rcases h3 with rfl | rfl <;> simp at ht'
      · exact hkb e
  refine ⟨rfl, ⟨bm', dm', dv', ⟨hbr, ?_, by rw [hH.ds, h.ds]⟩, ?_, hH.now, hH.sent, hH.told, ?_⟩, ?_⟩
  · refine hdm.touch ht2 fun k hk => ?_
    have hlow : B ≤ k ∧ ∃ cur ty, w.heap[k]? = some (.cells cur ty (0, 0)) ∧ (ty = 80 ∨ ty = 95) := h.bus.tys hk
    obtain ⟨h1, cur, ty, h2, h3⟩ := hlow
    exact w1tys k h1 h2 h3 hk
  · refine hh.touch5 ht2 fun k hk => ?_
    obtain ⟨h1, cur, ty, h2, h3⟩ := h.bus.tys hk
    obtain ⟨h4, cur', ty', h5, h6⟩ := w1tys k h1 h2 h3 hk
    exact ⟨h4, cur', ty', h5, by rcases h6 with rfl | rfl <;> decide⟩
  · obtain ⟨dk, e1, e2⟩ := hH.sorted
    obtain ⟨e3, e4⟩ := mg_list e2
    rw [e1]
    exact ⟨e3, e4⟩
  · refine Touch.andThen (ht1.mono fun k _ hk => ?_) ht2 fun k _ hk => ?_
    · rcases hk with hk | hk
      · exact .inl hk
      · exact .inr (.inl hk)
    · exact .inr hk
end Go.Proofs.Ytkdnkjjnmadhgaa.Dev
