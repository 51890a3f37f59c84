import Derived.Test.YtkdnkjjnmadhgaaDH
set_option linter.unusedVariables false
set_option linter.unusedSimpArgs false
/-! A disk. -/
namespace Go.Proofs.Ytkdnkjjnmadhgaa.Dev
open Go.RowKit Go.Maps

def ints (l : List Int) : List Value := l.map (.int .i64 ·)
/-- Where x stands first. -/
def IsAt (xs : List Int) (x r : Int) : Prop := (r = -1 ∧ x ∉ xs) ∨ ∃ k : Nat, r = k ∧ xs[k]? = some x
set_option maxHeartbeats 400000 in
set_option maxRecDepth 100000 in
theorem index_any (w : World) (B : Nat) (v : Sl) (xs : List Int) (x : Int) (h : Held B 3 w v (ints xs)) (hn : xs.length ≤ 100000) :
    Calls Try.prog 94 #[slv v, .int .i64 x] w fun e w' => ∃ r, e = .returned (.int .i64 r) ∧ IsAt xs x r ∧ w' = w := by
  obtain ⟨va, vn, vc⟩ := v
  have hl : xs.length = vn := by simpa [ints] using h.1
  subst hl
  have hc : ∀ j, j < xs.length → ∃ g off y, va = some ⟨g, off, none⟩ ∧ xs[j]? = some y ∧ w.cell? ⟨g, off + j, none⟩ = some (.int .i64 y) := fun j hj => by
    obtain ⟨g, off, e, _, hcc⟩ := h.2.2 (show 0 < xs.length by omega)
    exact ⟨g, off, xs[j], e, List.getElem?_eq_getElem hj, hcc j _ (by simp [ints, hj])⟩
  have HC := Lib.hid hc
  clear h hc
  show Calls Try.prog 94 #[.slice va xs.length vc, .int .i64 x] w _
  go_enter Try.func94, Try.ntmps94
  go_wp2_with fail
  go_loopw [8] (fun i wr => ∃ j : Nat, j ≤ xs.length ∧ i = .int .i64 j ∧ (∀ k, k < j → xs[k]? ≠ some x) ∧ wr = w)
    (fun i _ => xs.length - (intOf i).toNat)
  case atStart => exact ⟨0, Nat.zero_le _, rfl, fun k hk => absurd hk (by omega), rfl⟩
  case round =>
    obtain ⟨j, hj, rfl, hne, rfl⟩ := hrel
    by_cases hlt : j < xs.length
    · obtain ⟨g, off, y, rfl, hy, hcell⟩ := HC.out j hlt
      have hd : decide ((j : Int) < (xs.length : Int)) = true := by simpa using hlt
      have HY := Lib.hid hy
      have HNE := Lib.hid hne
      clear hy hne
      cases hb : x == y with
      | true =>
        have HB := Lib.hid hb
        clear hb
        have hb' : (x == y) = true := HB.out
        go_wp2_with fail
        go_ret
        have hyx : x = y := by simpa using HB.out
        exact ⟨_, rfl, .inr ⟨j, rfl, by rw [HY.out, hyx]⟩, rfl⟩
      | false =>
        have HB := Lib.hid hb
        clear hb
        have hb' : (x == y) = false := HB.out
        go_wp2_with fail
        go_roundw
        case rel =>
          refine ⟨j + 1, by omega, by go_num, ?_, trivial⟩
          intro k hk
          by_cases hkj : k = j
          · subst hkj
            rw [HY.out]
            intro e
            have := HB.out
            simp at e
            simp [e] at this
          · exact HNE.out k (by omega)
        case measure => simp [intOf]; omega
    · have hjn : j = xs.length := by omega
      subst hjn
      have HNE := Lib.hid hne
      clear hne
      go_wp2_with fail
      go_ret
      refine ⟨_, rfl, .inl ⟨rfl, ?_⟩, rfl⟩
      intro hm
      obtain ⟨k, hk, e⟩ := List.mem_iff_getElem.1 hm
      exact HNE.out k hk (by rw [List.getElem?_eq_getElem hk, e])
set_option maxRecDepth 100000 in
theorem contains_any (w : World) (B : Nat) (v : Sl) (xs : List Int) (x : Int) (h : Held B 3 w v (ints xs)) (hn : xs.length ≤ 100000) :
    Calls Try.prog 93 #[slv v, .int .i64 x] w fun e w' => e = .returned (.bool (decide (x ∈ xs))) ∧ w' = w := by
  have C := Lib.hid (index_any w B v xs x h hn)
  clear h
  by_cases hm : x ∈ xs
  · rw [decide_eq_true hm]
    have HM := Lib.hid hm
    clear hm
    go_enter Try.func93, Try.ntmps93
    go_wp2_with (go_at_call 94; (refine (C.out).mono ?_); rintro e w' ⟨r, rfl, hr, rfl⟩; rcases hr with ⟨_, hr⟩ | ⟨k, rfl, _⟩; exact absurd HM.out hr)
    have hk : decide ((0 : Int) ≤ (k : Int)) = true := by simp
    go_wp2
    go_ret
    exact ⟨rfl, rfl⟩
  · rw [decide_eq_false hm]
    have HM := Lib.hid hm
    clear hm
    go_enter Try.func93, Try.ntmps93
    go_wp2_with (go_at_call 94; (refine (C.out).mono ?_); rintro e w' ⟨r, rfl, hr, rfl⟩; (obtain rfl : r = -1 := hr.elim (fun h => h.1) (fun ⟨k, _, hk⟩ => absurd (List.mem_of_getElem? hk) HM.out)))
    go_ret
    exact ⟨rfl, rfl⟩

/-- A disk's slices. -/
structure DM where
  vb : Sl
  vo : Sl
  vw : Sl
  vd : Sl
  sb : List Sl
  so : List Sl
  sw : List (Int × Int × Sl)
/-- A disk. -/
structure PD where
  blocks : List (List Value)
  old : List (List Value)
  writes : List (Int × Int × List Value)
  bad : List Int
  arm : Int
  free : Int
def encW (x : Int × Int × Sl) : List Value := [.int .i64 x.1, .int .i64 x.2.1, slv x.2.2]
theorem encW_len (x : Int × Int × Sl) : (encW x).length = 3 := rfl
def All2 {α β : Type} (R : α → β → Prop) (l : List α) (m : List β) : Prop := l.length = m.length ∧ ∀ (i : Nat) x y, l[i]? = some x → m[i]? = some y → R x y
theorem All2.mono {α β : Type} {R S : α → β → Prop} {l : List α} {m : List β} (h : All2 R l m) (hrs : ∀ x y, R x y → S x y) : All2 S l m := ⟨h.1, fun i x y hx hy => hrs x y (h.2 i x y hx hy)⟩
theorem All2.nil_ {α β : Type} {R : α → β → Prop} : All2 R [] [] := ⟨rfl, fun i x y h => by simp at h⟩
theorem All2.snoc {α β : Type} {R : α → β → Prop} {l : List α} {m : List β} {x : α} {y : β} (h : All2 R l m) (hxy : R x y) : All2 R (l ++ [x]) (m ++ [y]) := by
  refine ⟨by simp [h.1], fun i a b ha hb => ?_⟩
  by_cases hi : i < l.length
  · rw [List.getElem?_append_left hi] at ha
    rw [List.getElem?_append_left (by rw [← h.1]; exact hi)] at hb
    exact h.2 i a b ha hb
  · have hle := (List.getElem?_eq_some_iff.1 ha).1
    simp at hle
    obtain rfl : i = l.length := by omega
    rw [List.getElem?_append_right (Nat.le_refl _)] at ha
    rw [h.1, List.getElem?_append_right (Nat.le_refl _)] at hb
    simp at ha hb
    subst ha hb
    exact hxy
/-- The blocks that a disk may write. -/
def OwnD (d : Nat) (m : DM) (k : Nat) : Prop := k = d ∨ (slv m.vb).ownBlock = some k ∨ (slv m.vo).ownBlock = some k ∨ (slv m.vw).ownBlock = some k
/-- A block that nobody writes. -/
def Still (B : Nat) (w : World) (k : Nat) : Prop := k < B ∨ ∃ cur ty, w.heap[k]? = some (.cells cur ty (0, 0)) ∧ (ty = 5 ∨ ty = 3)
theorem Held.stays {B ty : Nat} {w w' : World} {v : Sl} {xs : List Value} (h : Held B ty w v xs) (hty : ty = 5 ∨ ty = 3) (hk : ∀ k, k < w.heap.size → Still B w k → w'.heap[k]? = w.heap[k]?) : Held B ty w' v xs :=
  h.keep fun k hl ho => hk k hl (ho.imp id fun ⟨cur, hh⟩ => ⟨cur, ty, hh, hty⟩)
structure DRep (B : Nat) (w : World) (d : Nat) (m : DM) (p : PD) : Prop where
  low : B ≤ d
  cells : w.heap[d]? = some (.cells #[slv m.vb, slv m.vo, slv m.vw, slv m.vd, .int .i64 p.arm, .int .i64 p.free] 106 (0, 0))
  rb : w.ownsRow B 39 1 (slv m.vb) m.sb.length (m.sb.map slv)
  ro : w.ownsRow B 39 1 (slv m.vo) m.so.length (m.so.map slv)
  rw : w.ownsRow B 116 3 (slv m.vw) m.sw.length (m.sw.flatMap encW)
  ne : ∀ g, (slv m.vb).ownBlock = some g → (slv m.vo).ownBlock ≠ some g
  hb : All2 (Held B 5 w) m.sb p.blocks
  ho : All2 (Held B 5 w) m.so p.old
  hw : All2 (fun s x => s.1 = x.1 ∧ s.2.1 = x.2.1 ∧ Held B 5 w s.2.2 x.2.2) m.sw p.writes
  hd : Held B 3 w m.vd (ints p.bad)
section
variable {B : Nat} {w w' : World} {d : Nat} {m : DM} {p : PD}
/-- What a disk may write is apart from what nobody writes. -/
theorem DRep.apart (h : DRep B w d m p) {k : Nat} (ho : OwnD d m k) : B ≤ k ∧ k < w.heap.size ∧ ¬ Still B w k := by
  have key : ∀ {ty : TypeId} {cur : Array Value}, B ≤ k → w.heap[k]? = some (.cells cur ty (0, 0)) → ty ≠ 5 → ty ≠ 3 → B ≤ k ∧ k < w.heap.size ∧ ¬ Still B w k := by
    intro ty cur hb hh h5 h3
    refine ⟨hb, blt hh, ?_⟩
    rintro (hs | ⟨c, t, hs, ht⟩)
    · omega
    · rw [hh] at hs
      simp at hs
      obtain ⟨_, rfl⟩ := hs
      exact ht.elim h5 h3
  rcases ho with rfl | ho | ho | ho
  · exact key h.low h.cells (by decide) (by decide)
  · obtain ⟨hb, cur, hh⟩ := own_block h.rb ho
    exact key hb hh (by decide) (by decide)
  · obtain ⟨hb, cur, hh⟩ := own_block h.ro ho
    exact key hb hh (by decide) (by decide)
  · obtain ⟨hb, cur, hh⟩ := own_block h.rw ho
    exact key hb hh (by decide) (by decide)
/-- The arm and the time change. -/
theorem DRep.set (h : DRep B w d m p) (arm free : Int) (hc : w'.heap[d]? = some (.cells #[slv m.vb, slv m.vo, slv m.vw, slv m.vd, .int .i64 arm, .int .i64 free] 106 (0, 0)))
    (hk : ∀ k, k < w.heap.size → k ≠ d → (OwnD d m k ∨ Still B w k) → w'.heap[k]? = w.heap[k]?) : DRep B w' d m { p with arm := arm, free := free } := by
  have hd : ¬ Still B w d := (h.apart (.inl rfl)).2.2
  have hs : ∀ k, k < w.heap.size → Still B w k → w'.heap[k]? = w.heap[k]? := fun k hl hs => hk k hl (fun e => hd (e ▸ hs)) (.inr hs)
  refine ⟨h.low, hc, own_keep h.rb fun g hg hl => hk g hl (fun e => ?_) (.inl (.inr (.inl hg))), own_keep h.ro fun g hg hl => hk g hl (fun e => ?_) (.inl (.inr (.inr (.inl hg)))), own_keep h.rw fun g hg hl => hk g hl (fun e => ?_) (.inl (.inr (.inr (.inr hg)))), h.ne,
    h.hb.mono fun _ _ hh => hh.stays (.inl rfl) hs, h.ho.mono fun _ _ hh => hh.stays (.inl rfl) hs, h.hw.mono fun _ _ hh => ⟨hh.1, hh.2.1, hh.2.2.stays (.inl rfl) hs⟩, h.hd.stays (.inr rfl) hs⟩
  · subst e
    exact own_ty h.rb h.cells (by decide) hg
  · subst e
    exact own_ty h.ro h.cells (by decide) hg
  · subst e
    exact own_ty h.rw h.cells (by decide) hg
theorem DRep.keep (h : DRep B w d m p) (hk : ∀ k, k < w.heap.size → (OwnD d m k ∨ Still B w k) → w'.heap[k]? = w.heap[k]?) : DRep B w' d m p :=
  h.set p.arm p.free ((hk d (blt h.cells) (.inl (.inl rfl))).trans h.cells) fun k hl _ ho => hk k hl ho
end
end Go.Proofs.Ytkdnkjjnmadhgaa.Dev
