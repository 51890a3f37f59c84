import Derived.Test.YtkmgbnklfnjfjaaRJ
/-! The specification's kernel: create. -/
namespace Go.Proofs.Ytkmgbnklfnjfjaa.Ker
open Go.RowKit Go.Maps

theorem info92 : (Try.prog.info? 92).map (fun i => (i.zero, i.size, i.bytes)) = some (some (.agg #[.int .i64 0, .int .i64 0, .bool false, .bool false, .int .i64 0, .int .i64 0, .slice none 0 0]), 7, 64) := by kernel_rfl
/-- Where a number is put into a sorted list. -/
def insAt (l : List Int) (x : Int) : Nat := (l.takeWhile fun i => decide (i < x)).length
theorem insAt_le (l : List Int) (x : Int) : insAt l x ≤ l.length := by unfold insAt; exact (List.takeWhile_prefix _).length_le
theorem insAt_lt : ∀ (l : List Int) (x : Int) (k : Nat) (i : Int), k < insAt l x → l[k]? = some i → i < x
  | [], x, k, i, h, _ => by simp [insAt] at h
  | y :: l, x, 0, i, h, hi => by
    simp only [List.getElem?_cons_zero, Option.some.injEq] at hi
    subst hi
    unfold insAt at h
    rw [List.takeWhile_cons] at h
    split at h
    · rename_i hh; simpa using hh
    · simp at h
  | y :: l, x, k + 1, i, h, hi => by
    refine insAt_lt l x k i ?_ (by simpa using hi)
    unfold insAt at h ⊢
    rw [List.takeWhile_cons] at h
    split at h
    · simp at h; omega
    · simp at h
theorem insAt_ge : ∀ (l : List Int) (x : Int) (i : Int), l[insAt l x]? = some i → ¬ i < x
  | [], x, i, h => by simp at h
  | y :: l, x, i, h => by
    unfold insAt at h
    rw [List.takeWhile_cons] at h
    split at h
    · exact insAt_ge l x i (by simpa [insAt] using h)
    · rename_i hh
      simp at h
      subst h
      simpa using hh
def insF (l : List Int) (x : Int) : List Int := l.take (insAt l x) ++ x :: l.drop (insAt l x)
theorem insF_mem (l : List Int) (x i : Int) : i ∈ insF l x ↔ i = x ∨ i ∈ l := by
  unfold insF
  rw [List.mem_append, List.mem_cons]
  have e : i ∈ l ↔ i ∈ l.take (insAt l x) ∨ i ∈ l.drop (insAt l x) := by rw [← List.mem_append, List.take_append_drop]
  rw [e]
  constructor
  · rintro (h | h | h)
    · exact .inr (.inl h)
    · exact .inl h
    · exact .inr (.inr h)
  · rintro (h | h | h)
    · exact .inr (.inl h)
    · exact .inl h
    · exact .inr (.inr h)
/-- create, plainly. -/
def createR (a : A) (x y : Int) : A := { a with tids := insF a.tids x, tk := upd a.tk x { pri := y, held := false, waiting := false, forr := 0, flags := 0 }, q := upd a.q x [] }

/-- A task more: the tasks' row is new. -/
theorem RRep.setCreate {B xb : Nat} {h : RG} {a : A} {w w5 : World} (r : RRep B xb h a w) (x y : Int) (hx : x ∉ a.tids) (hxd : x ∉ devs) (tv : Value) (hb : Below w.heap.size w w5) (ho : w5.ownsRow w.heap.size 92 7 tv (createR a x y).tids.length ((createR a x y).tids.flatMap (rtc (createR a x y) (upd h.qv x (.slice none 0 0))))) :
    Left B xb h a w { h with tv := tv, qv := upd h.qv x (.slice none 0 0) } (createR a x y) (w5.setCell ⟨xb, 0, none⟩ tv) := by
  have hx5 : w5.heap[xb]? = some (.cells (rcells h a) 63 (0, 0)) := (hb.block xb (blt r.blk)).trans r.blk
  have hBw : B ≤ w.heap.size := Nat.le_trans r.low (Nat.le_of_lt (blt r.blk))
  have hT : Touch w (w5.setCell ⟨xb, 0, none⟩ tv) (fun k => k = xb) := (⟨hb.os, hb.tape, hb.output, hb.size, fun k hk _ => hb.block k hk⟩ : Touch w w5 (fun k => k = xb)).trans (Touch.setCell _ _ _ rfl)
  have hod : ∀ i ∈ devs, i ≠ x := fun i hi e => hxd (e ▸ hi)
  have e : ∀ k ∈ devs, upd h.qv x (.slice none 0 0) k = h.qv k := fun k hk => upd_other _ _ (hod k hk)
  have own' : ∀ i, (createR a x y).owner i → i ≠ x → a.owner i := fun i hi hix => by
    rcases hi with hi | hi
    · exact .inl (((insF_mem a.tids x i).1 hi).resolve_left hix)
    · exact .inr hi
  refine ⟨⟨?_, ?_, row_kept hT r.prow (fun b hb' e => own_ty r.prow r.blk (by decide) (e ▸ hb')), row_kept hT r.mrow (fun b hb' e => own_ty r.mrow r.blk (by decide) (e ▸ hb')), ?_, ?_, r.low⟩, hT.mono (fun k _ hk => .inl hk), ?_⟩
  · have := set_same hx5 0 tv
    rw [this]
    simp only [rcells, createR, e (-1) (by decide), e (-2) (by decide), e (-3) (by decide), e (-4) (by decide), e (-5) (by decide)]
    rfl
  · refine own_base (own_keep ho (fun b hb' _ => set_other ?_)) hBw
    rintro rfl
    exact own_ty ho hx5 (by decide) hb'
  · intro i hi
    by_cases hix : i = x
    · subst hix
      show (w5.setCell ⟨xb, 0, none⟩ tv).ownsRow B 3 1 (upd h.qv i (.slice none 0 0) i) (upd a.q i [] i).length ((upd a.q i [] i).map fun p => .int .i64 p)
      rw [upd_same, upd_same]
      exact owns_none
    · show (w5.setCell ⟨xb, 0, none⟩ tv).ownsRow B 3 1 (upd h.qv x (.slice none 0 0) i) (upd a.q x [] i).length ((upd a.q x [] i).map fun p => .int .i64 p)
      rw [upd_other _ _ hix, upd_other _ _ hix]
      exact row_kept hT (r.row i (own' i hi hix)) (fun b hb' e => own_ty (r.row i (own' i hi hix)) r.blk (by decide) (e ▸ hb'))
  · intro i j hij hi hj
    show sepB (upd h.qv x (.slice none 0 0) i) (upd h.qv x (.slice none 0 0) j)
    by_cases h1 : i = x
    · subst h1
      rw [upd_same]
      exact fun b hb => by cases hb
    · by_cases h2 : j = x
      · subst h2
        rw [upd_same]
        exact fun b _ hb => by cases hb
      · rw [upd_other _ _ h1, upd_other _ _ h2]
        exact r.sep i j hij (own' i hi h1) (own' j hj h2)
  · intro k hk
    rcases hk with hk | hk | hk | hk | ⟨i, hi, hk⟩
    · exact .inl (.inl hk)
    · exact .inr (own_block ho hk).1
    · exact .inl (.inr (.inr (.inl hk)))
    · exact .inl (.inr (.inr (.inr (.inl hk))))
    · simp only at hk
      by_cases hix : i = x
      · subst hix
        rw [upd_same] at hk
        cases hk
      · rw [upd_other _ _ hix] at hk
        exact .inl (.inr (.inr (.inr (.inr ⟨i, own' i hi hix, hk⟩))))
theorem new7' (w : World) (l : List Value) : ∀ j u, l[j]? = some u → (w.alloc (.cells l.toArray 92)).cell? ((⟨w.heap.size, 0, none⟩ : Addr).add j) = some u := by
  intro j u hu
  rw [Addr.add_lit, Nat.zero_add]
  exact (cell_of (alloc_new w _) j).trans (by simpa using hu)
theorem flat_len {α : Type} (f : α → List Value) (sz : Nat) (hf : ∀ x, (f x).length = sz) : ∀ l : List α, (l.flatMap f).length = l.length * sz
  | [] => by simp
  | x :: l => by rw [List.flatMap_cons, List.length_append, hf, flat_len f sz hf l, List.length_cons, Nat.succ_mul]; omega
theorem flat_take {α : Type} (f : α → List Value) (sz : Nat) (hf : ∀ x, (f x).length = sz) : ∀ (l : List α) (k : Nat), (l.take k).flatMap f = (l.flatMap f).take (k * sz)
  | [], k => by simp
  | x :: l, 0 => by simp
  | x :: l, k + 1 => by
    have e1 : (f x).take ((k + 1) * sz) = f x := List.take_of_length_le (by rw [hf, Nat.succ_mul]; omega)
    have e2 : (k + 1) * sz - (f x).length = k * sz := by rw [hf, Nat.succ_mul]; omega
    rw [List.take_succ_cons, List.flatMap_cons, List.flatMap_cons, flat_take f sz hf l k, List.take_append, e1, e2]
theorem flat_drop {α : Type} (f : α → List Value) (sz : Nat) (hf : ∀ x, (f x).length = sz) : ∀ (l : List α) (k : Nat), (l.drop k).flatMap f = (l.flatMap f).drop (k * sz)
  | [], k => by simp
  | x :: l, 0 => by simp
  | x :: l, k + 1 => by
    have e1 : (f x).drop ((k + 1) * sz) = [] := List.drop_of_length_le (by rw [hf, Nat.succ_mul]; omega)
    have e2 : (k + 1) * sz - (f x).length = k * sz := by rw [hf, Nat.succ_mul]; omega
    rw [List.drop_succ_cons, List.flatMap_cons, flat_drop f sz hf l k, List.drop_append, e1, e2, List.nil_append]
theorem rtc_one (a : A) (qv : Int → Value) (hq : ∀ i, ∃ p n c, qv i = .slice p n c) (l : List Int) : ∀ u ∈ l.flatMap (rtc a qv), u.oneCell' = true := by
  intro u hu
  obtain ⟨i, _, hi⟩ := List.mem_flatMap.1 hu
  obtain ⟨p, n, c, hqi⟩ := hq i
  simp only [rtc, hqi, List.mem_cons, List.not_mem_nil, or_false] at hi
  rcases hi with rfl | rfl | rfl | rfl | rfl | rfl | rfl <;> rfl
set_option maxHeartbeats 2000000 in
set_option maxRecDepth 100000 in
theorem rcreate_range0 (B xb : Nat) (h : RG) (a : A) (w : World) (r : RRep B xb h a w) (x y : Int) (hc : x < 1) :
    Calls Try.prog 57 #[ptr xb, .int .i64 x, .int .i64 y] w (LeftR B xb h a w (.int .i64 1) a) := by
  have R := Lib.hid r
  have d1 : decide (x < 1) = true := by simp; omega
  clear r hc
  go_enter Try.func57, Try.ntmps57
  go_wp2_with fail
  go_ret
  exact LeftR.still R.out _ (Below.refl _ _)
set_option maxHeartbeats 2000000 in
set_option maxRecDepth 100000 in
theorem rcreate_range1 (B xb : Nat) (h : RG) (a : A) (w : World) (r : RRep B xb h a w) (x y : Int) (hc : ¬ x < 1 ∧ 20 < x) :
    Calls Try.prog 57 #[ptr xb, .int .i64 x, .int .i64 y] w (LeftR B xb h a w (.int .i64 1) a) := by
  have R := Lib.hid r
  have d1 : decide (x < 1) = false := by simp; omega
  have d2 : decide (20 < x) = true := by simp; omega
  clear r hc
  go_enter Try.func57, Try.ntmps57
  go_wp2_with fail
  go_ret
  exact LeftR.still R.out _ (Below.refl _ _)
set_option maxHeartbeats 2000000 in
set_option maxRecDepth 100000 in
theorem rcreate_range2 (B xb : Nat) (h : RG) (a : A) (w : World) (r : RRep B xb h a w) (x y : Int) (hc : ¬ x < 1 ∧ ¬ 20 < x ∧ y < 1) :
    Calls Try.prog 57 #[ptr xb, .int .i64 x, .int .i64 y] w (LeftR B xb h a w (.int .i64 1) a) := by
  have R := Lib.hid r
  have d1 : decide (x < 1) = false := by simp; omega
  have d2 : decide (20 < x) = false := by simp; omega
  have d3 : decide (y < 1) = true := by simp; omega
  clear r hc
  go_enter Try.func57, Try.ntmps57
  go_wp2_with fail
  go_ret
  exact LeftR.still R.out _ (Below.refl _ _)
set_option maxHeartbeats 2000000 in
set_option maxRecDepth 100000 in
theorem rcreate_range3 (B xb : Nat) (h : RG) (a : A) (w : World) (r : RRep B xb h a w) (x y : Int) (hc : ¬ x < 1 ∧ ¬ 20 < x ∧ ¬ y < 1 ∧ 1000 < y) :
    Calls Try.prog 57 #[ptr xb, .int .i64 x, .int .i64 y] w (LeftR B xb h a w (.int .i64 1) a) := by
  have R := Lib.hid r
  have d1 : decide (x < 1) = false := by simp; omega
  have d2 : decide (20 < x) = false := by simp; omega
  have d3 : decide (y < 1) = false := by simp; omega
  have d4 : decide (1000 < y) = true := by simp; omega
  clear r hc
  go_enter Try.func57, Try.ntmps57
  go_wp2_with fail
  go_ret
  exact LeftR.still R.out _ (Below.refl _ _)
set_option maxHeartbeats 2000000 in
set_option maxRecDepth 100000 in
theorem rcreate_twice (B xb : Nat) (h : RG) (a : A) (w : World) (r : RRep B xb h a w) (gd : Good a) (x y : Int) (hr : 1 ≤ x ∧ x ≤ 20 ∧ 1 ≤ y ∧ y ≤ 1000) (ht : ∃ i ∈ a.tids, i = x ∨ (a.tk i).pri = y) :
    Calls Try.prog 57 #[ptr xb, .int .i64 x, .int .i64 y] w (LeftR B xb h a w (.int .i64 6) a) := by
  obtain ⟨i0, hi0, hz0, hz1, hz2⟩ := info_parts info92
  have d1 : decide (x < 1) = false := by simp; omega
  have d2 : decide (20 < x) = false := by simp; omega
  have d3 : decide (y < 1) = false := by simp; omega
  have d4 : decide (1000 < y) = false := by simp; omega
  obtain ⟨ta, tc, htv⟩ := own_form r.trow
  have k0 := r.k0
  rw [htv] at k0
  have HTV := Lib.hid htv
  have R := Lib.hid r
  have GD := Lib.hid gd
  have HT := Lib.hid ht
  have HR := Lib.hid hr
  have hlt20 := nodup_bound 20 a.tids gd.tnd (fun x hx => gd.trng x hx)
  clear r gd hr htv ht
  go_enter Try.func57, Try.ntmps57
  go_wp2_with fail
  go_loop [7] (fun t => ∃ k : Nat, k ≤ a.tids.length ∧ t = .int .i64 k ∧ ∀ j i, j < k → a.tids[j]? = some i → i ≠ x ∧ (a.tk i).pri ≠ y) (fun t => a.tids.length - (intOf t).toNat)
  case atStart => exact ⟨0, Nat.zero_le _, rfl, fun j i hj => absurd hj (by omega)⟩
  case round =>
    obtain ⟨k, hk, rfl, hne⟩ := hrel
    have HNE := Lib.hid hne
    clear hne
    by_cases hlk : k < a.tids.length
    · have hd : decide ((k : Int) < (a.tids.length : Int)) = true := by simpa using hlk
      obtain ⟨z, hz⟩ : ∃ z, a.tids[k]? = some z := ⟨_, List.getElem?_eq_getElem hlk⟩
      obtain ⟨gz, cz, hvz, _, hcz⟩ := row_cells (f := rtc a h.qv) (sz := 7) (fun _ => rfl) R.out.trow hz
      rw [HTV.out] at hvz
      simp only [Value.slice.injEq] at hvz
      obtain ⟨rfl, -, rfl⟩ := hvz
      have q0 : w.cell? ⟨gz, k * 7, none⟩ = some (.int .i64 z) := hcz 0 (by omega)
      have q1 : w.cell? ⟨gz, k * 7 + 1, none⟩ = some (.int .i64 (a.tk z).pri) := hcz 1 (by omega)
      have HZ := Lib.hid hz
      clear hcz hz
      by_cases hzx : z = x
      · have hb : (z == x) = true := by simp [hzx]
        have HZX := Lib.hid hzx
        clear hzx
        go_wp2_with fail
        go_ret
        exact LeftR.still R.out _ (Below.refl _ _)
      · have hb : (z == x) = false := by simp [hzx]
        have HZX := Lib.hid hzx
        clear hzx
        by_cases hpy : (a.tk z).pri = y
        · have hb2 : ((a.tk z).pri == y) = true := by simp [hpy]
          have HPY := Lib.hid hpy
          clear hpy
          go_wp2_with fail
          go_ret
          exact LeftR.still R.out _ (Below.refl _ _)
        · have hb2 : ((a.tk z).pri == y) = false := by simp [hpy]
          have HPY := Lib.hid hpy
          clear hpy
          go_wp2_with fail
          go_round
          case rel =>
            refine ⟨k + 1, by omega, by go_num, fun j i hj hi => ?_⟩
            by_cases hjk : j = k
            · subst hjk
              have h1 := HZ.out
              rw [hi] at h1
              rw [Option.some.inj h1]
              exact ⟨HZX.out, HPY.out⟩
            · exact HNE.out j i (by omega) hi
          case measure => simp [intOf]; omega
    · have hkl : k = a.tids.length := by omega
      subst hkl
      have hd : decide ((a.tids.length : Int) < (a.tids.length : Int)) = false := by simp
      exfalso
      obtain ⟨i, hi, hix⟩ := HT.out
      obtain ⟨j, hj, hji⟩ := List.getElem_of_mem hi
      have := HNE.out j i hj (by rw [List.getElem?_eq_getElem hj, hji])
      rcases hix with hix | hix
      · exact this.1 hix
      · exact this.2 hix
set_option maxHeartbeats 2000000 in
set_option maxRecDepth 100000 in
theorem rcreate_ok (B xb : Nat) (h : RG) (a : A) (w : World) (r : RRep B xb h a w) (gd : Good a) (x y : Int) (hr : 1 ≤ x ∧ x ≤ 20 ∧ 1 ≤ y ∧ y ≤ 1000) (ht : ∀ i ∈ a.tids, i ≠ x ∧ (a.tk i).pri ≠ y) :
    Calls Try.prog 57 #[ptr xb, .int .i64 x, .int .i64 y] w (LeftR B xb h a w (.int .i64 0) (createR a x y)) := by
  obtain ⟨i0, hi0, hz0, hz1, hz2⟩ := info_parts info92
  have d1 : decide (x < 1) = false := by simp; omega
  have d2 : decide (20 < x) = false := by simp; omega
  have d3 : decide (y < 1) = false := by simp; omega
  have d4 : decide (1000 < y) = false := by simp; omega
  obtain ⟨ta, tc, htv⟩ := own_form r.trow
  have k0 := r.k0
  rw [htv] at k0
  have HTV := Lib.hid htv
  have R := Lib.hid r
  have GD := Lib.hid gd
  have HT := Lib.hid ht
  have HR := Lib.hid hr
  have hlt20 := nodup_bound 20 a.tids gd.tnd (fun x hx => gd.trng x hx)
  clear r gd hr htv ht
  go_enter Try.func57, Try.ntmps57
  go_wp2_with fail
  go_loop [7] (fun t => ∃ k : Nat, k ≤ a.tids.length ∧ t = .int .i64 k ∧ ∀ j i, j < k → a.tids[j]? = some i → i ≠ x ∧ (a.tk i).pri ≠ y) (fun t => a.tids.length - (intOf t).toNat)
  case atStart => exact ⟨0, Nat.zero_le _, rfl, fun j i hj => absurd hj (by omega)⟩
  case round =>
    obtain ⟨k, hk, rfl, hne⟩ := hrel
    have HNE := Lib.hid hne
    clear hne
    by_cases hlk : k < a.tids.length
    · have hd : decide ((k : Int) < (a.tids.length : Int)) = true := by simpa using hlk
      obtain ⟨z, hz⟩ : ∃ z, a.tids[k]? = some z := ⟨_, List.getElem?_eq_getElem hlk⟩
      obtain ⟨gz, cz, hvz, _, hcz⟩ := row_cells (f := rtc a h.qv) (sz := 7) (fun _ => rfl) R.out.trow hz
      rw [HTV.out] at hvz
      simp only [Value.slice.injEq] at hvz
      obtain ⟨rfl, -, rfl⟩ := hvz
      have q0 : w.cell? ⟨gz, k * 7, none⟩ = some (.int .i64 z) := hcz 0 (by omega)
      have q1 : w.cell? ⟨gz, k * 7 + 1, none⟩ = some (.int .i64 (a.tk z).pri) := hcz 1 (by omega)
      have HZ := Lib.hid hz
      clear hcz hz
      by_cases hzx : z = x
      · have hb : (z == x) = true := by simp [hzx]
        have HZX := Lib.hid hzx
        clear hzx
        exact absurd HZX.out (HT.out z (List.mem_of_getElem? HZ.out)).1
      · have hb : (z == x) = false := by simp [hzx]
        have HZX := Lib.hid hzx
        clear hzx
        by_cases hpy : (a.tk z).pri = y
        · have hb2 : ((a.tk z).pri == y) = true := by simp [hpy]
          have HPY := Lib.hid hpy
          clear hpy
          exact absurd HPY.out (HT.out z (List.mem_of_getElem? HZ.out)).2
        · have hb2 : ((a.tk z).pri == y) = false := by simp [hpy]
          have HPY := Lib.hid hpy
          clear hpy
          go_wp2_with fail
          go_round
          case rel =>
            refine ⟨k + 1, by omega, by go_num, fun j i hj hi => ?_⟩
            by_cases hjk : j = k
            · subst hjk
              have h1 := HZ.out
              rw [hi] at h1
              rw [Option.some.inj h1]
              exact ⟨HZX.out, HPY.out⟩
            · exact HNE.out j i (by omega) hi
          case measure => simp [intOf]; omega
    · have hkl : k = a.tids.length := by omega
      subst hkl
      have hd : decide ((a.tids.length : Int) < (a.tids.length : Int)) = false := by simp
      clear HNE
      go_wp2_with fail
      obtain ⟨K, hK⟩ : ∃ K, K = insAt a.tids x := ⟨_, rfl⟩
      have hKl : K ≤ a.tids.length := hK ▸ insAt_le _ _
      have HK := Lib.hid hK
      clear hK
      go_loop [8] (fun t => ∃ k : Nat, k ≤ K ∧ t = .int .i64 k) (fun t => K - (intOf t).toNat)
      case atStart => exact ⟨0, Nat.zero_le _, rfl⟩
      case round =>
        obtain ⟨k, hk, rfl⟩ := hrel
        by_cases hlk : k < K
        · have hlk2 : k < a.tids.length := by omega
          have hd2 : decide ((k : Int) < (a.tids.length : Int)) = true := by simpa using hlk2
          obtain ⟨z, hz⟩ : ∃ z, a.tids[k]? = some z := ⟨_, List.getElem?_eq_getElem hlk2⟩
          have hzx := insAt_lt a.tids x k z (HK.out ▸ hlk) hz
          have hd3 : decide (z < x) = true := by simpa using hzx
          obtain ⟨gz, cz, hvz, _, hcz⟩ := row_cells (f := rtc a h.qv) (sz := 7) (fun _ => rfl) R.out.trow hz
          rw [HTV.out] at hvz
          simp only [Value.slice.injEq] at hvz
          obtain ⟨rfl, -, rfl⟩ := hvz
          have q0 : w.cell? ⟨gz, k * 7, none⟩ = some (.int .i64 z) := hcz 0 (by omega)
          clear hcz hz hzx
          go_wp2_with fail
          go_round
          case rel => exact ⟨k + 1, by omega, by go_num⟩
          case measure => simp [intOf]; omega
        · have hkK : k = K := by omega
          subst hkK
          have hstop : ((k : Nat) < a.tids.length ∧ ∃ gz z, ta = some ⟨gz, 0, none⟩ ∧ w.cell? ⟨gz, k * 7, none⟩ = some (.int .i64 z) ∧ decide (z < x) = false) ∨ k = a.tids.length := by
            by_cases hkl : k < a.tids.length
            · left
              obtain ⟨z, hz⟩ : ∃ z, a.tids[k]? = some z := ⟨_, List.getElem?_eq_getElem hkl⟩
              obtain ⟨gz, cz, hvz, _, hcz⟩ := row_cells (f := rtc a h.qv) (sz := 7) (fun _ => rfl) R.out.trow hz
              rw [HTV.out] at hvz
              simp only [Value.slice.injEq] at hvz
              have hge := insAt_ge a.tids x z (by rw [← HK.out]; exact hz)
              exact ⟨hkl, gz, z, hvz.1, hcz 0 (by omega), by simp; omega⟩
            · right; omega
          have xl := cell_lt k0
          have hx1 : x ∉ a.tids := fun hx => (HT.out x hx).1 rfl
          have hxd : x ∉ devs := fun hx => by have := HR.out; rw [devs_iff] at hx; omega
          have hx20 : 0 ≤ x := by have := HR.out; omega
          have hrow := R.out.trow
          rw [HTV.out] at hrow
          have htak := flat_take (rtc a h.qv) 7 (fun _ => rfl) a.tids k
          have hdrp := flat_drop (rtc a h.qv) 7 (fun _ => rfl) a.tids k
          have hrd : Reads w w.heap.size 7 ta a.tids.length (a.tids.flatMap (rtc a h.qv)) := Reads.of_own hrow
          have hone := rtc_one a (fun i => if a.owner i then h.qv i else .slice none 0 0) (fun i => by
            by_cases hi : a.owner i
            · obtain ⟨p, c, hq⟩ := own_form (R.out.row i hi)
              exact ⟨p, _, c, by simp only [if_pos hi]; exact hq⟩
            · exact ⟨none, 0, 0, by simp only [if_neg hi]⟩)
          have hsame : ∀ l : List Int, (∀ i ∈ l, i ∈ a.tids) → l.flatMap (rtc a (fun i => if a.owner i then h.qv i else .slice none 0 0)) = l.flatMap (rtc a h.qv) := fun l hl => by
            rw [List.flatMap_def, List.flatMap_def, List.map_congr_left (fun i hi => by
              show rtc a (fun i => if a.owner i then h.qv i else .slice none 0 0) i = rtc a h.qv i
              simp only [rtc, if_pos (show a.owner i from .inl (hl i hi))])]
          have one1 : ∀ u ∈ (a.tids.take k).flatMap (rtc a h.qv), u.oneCell' = true := by rw [← hsame _ (fun i hi => List.mem_of_mem_take hi)]; exact hone _
          have one2 : ∀ u ∈ (a.tids.drop k).flatMap (rtc a h.qv), u.oneCell' = true := by rw [← hsame _ (fun i hi => List.mem_of_mem_drop hi)]; exact hone _
          have RD1 := Lib.hid (show Reads w w.heap.size 7 ta k ((a.tids.take k).flatMap (rtc a h.qv)) from ⟨by rw [flat_len _ 7 (fun _ => rfl), List.length_take]; congr 1; omega, fun hk0 => by
            obtain ⟨ad, h1, h2, h3⟩ := hrd.2 (by omega)
            refine ⟨ad, h1, h2, fun j u hu => h3 j u ?_⟩
            rw [htak] at hu
            rw [List.getElem?_take] at hu
            split at hu
            · exact hu
            · cases hu⟩)
          have ONE1 := Lib.hid one1
          have ONE2 := Lib.hid one2
          have HRD := Lib.hid hrd
          have HDRP := Lib.hid hdrp
          have HROW := Lib.hid hrow
          have HX1 := Lib.hid hx1
          have HXD := Lib.hid hxd
          have hfr := R.out.kf 0
          have FINI := Lib.hid (show ∀ (w5 : World) (tv : Value), Below w.heap.size w w5 → w5.ownsRow w.heap.size 92 7 tv (k + 1 + (a.tids.length - k)) ((a.tids.take k).flatMap (rtc a h.qv) ++ [.int .i64 x, .int .i64 y, .bool false, .bool false, .int .i64 0, .int .i64 0, .slice none 0 0] ++ (a.tids.drop k).flatMap (rtc a h.qv)) → LeftR B xb h a w (.int .i64 0) (createR a x y) (.returned (.int .i64 0)) (w5.setCell ⟨xb, 0, none⟩ tv) from fun w5 tv hb5 ho5 => by
            have e1 : (createR a x y).tids.flatMap (rtc (createR a x y) (upd h.qv x (.slice none 0 0))) = (a.tids.take k).flatMap (rtc a h.qv) ++ [.int .i64 x, .int .i64 y, .bool false, .bool false, .int .i64 0, .int .i64 0, .slice none 0 0] ++ (a.tids.drop k).flatMap (rtc a h.qv) := by
              have e2 : ∀ i ∈ a.tids, rtc (createR a x y) (upd h.qv x (.slice none 0 0)) i = rtc a h.qv i := fun i hi => by
                have hne : i ≠ x := fun e => hx1 (e ▸ hi)
                simp only [rtc, createR, upd_other _ _ hne]
              have e3 : rtc (createR a x y) (upd h.qv x (.slice none 0 0)) x = [.int .i64 x, .int .i64 y, .bool false, .bool false, .int .i64 0, .int .i64 0, .slice none 0 0] := by simp only [rtc, createR, upd_same]
              show (insF a.tids x).flatMap _ = _
              unfold insF
              rw [← HK.out, List.flatMap_append, List.flatMap_cons, e3, List.flatMap_def, List.map_congr_left (fun i hi => e2 i (List.mem_of_mem_take hi)), ← List.flatMap_def, List.flatMap_def (l := a.tids.drop k), List.map_congr_left (fun i hi => e2 i (List.mem_of_mem_drop hi)), ← List.flatMap_def]
              simp
            have e4 : (createR a x y).tids.length = k + 1 + (a.tids.length - k) := by
              show (insF a.tids x).length = _
              unfold insF
              rw [← HK.out, List.length_append, List.length_cons, List.length_take, List.length_drop]
              omega
            exact ⟨rfl, _, R.out.setCreate x y hx1 hxd tv hb5 (by rw [e1, e4]; exact ho5)⟩)
          clear htak hdrp hone hsame one1 one2 hx1 hxd
          have hform : (ta = none ∧ a.tids.length = 0 ∧ tc = 0) ∨ (∃ gz, ta = some ⟨gz, 0, none⟩ ∧ a.tids.length ≤ tc) := by
            rcases hrow.2 with ⟨h1, h2⟩ | ⟨g', cap, cur, h1, _, _, h4, _⟩
            · simp only [Value.slice.injEq] at h1
              exact .inl ⟨h1.1, h2, h1.2.2⟩
            · simp only [Value.slice.injEq] at h1
              exact .inr ⟨g', h1.1, by rw [h1.2.2]; exact h4⟩
          clear hrd hrow
          rcases hform with ⟨rfl, hz, rfl⟩ | ⟨gz, rfl, hcap⟩
          · obtain rfl : k = 0 := by omega
            have hd2 : decide (((0 : Nat) : Int) < (a.tids.length : Int)) = false := decide_eq_false (by omega)
            have hz' : a.tids.length ≤ 0 := by omega
            have RD3 := Lib.hid (show Reads w w.heap.size 7 none 0 ((a.tids.drop 0).flatMap (rtc a h.qv)) from by
              have := HRD.out
              rw [hz] at this
              simpa using this)
            rw [hz] at k0
            have HZ := Lib.hid hz
            have RD1' := RD1.out
            have ONE1' := ONE1.out
            clear hz
            go_wp2_with (first | (at_builtin; refine wpList_append_any _ rfl (.tmp 76) (.tmp 82) 59 rfl w.heap.size 92 i0 (.agg #[.int .i64 0, .int .i64 0, .bool false, .bool false, .int .i64 0, .int .i64 0, .slice none 0 0]) 7 64 Try.underlying59 hi0 hz0 hz1 hz2 rfl (by decide) (.slice (some ⟨w.heap.size, 0, none⟩) 0 0) 0 [] rfl ⟨rfl, .inr ⟨w.heap.size, 0, #[], rfl, Nat.le_refl _, alloc_new w _, Nat.le_refl _, by decide, rfl, rfl⟩⟩ w.heap.size none 0 0 ((a.tids.take 0).flatMap (rtc a h.qv)) rfl (RD1.out.alloc (Nat.le_refl _) _) ONE1.out (by unfold maxLen; omega) (by omega) (by simp) ?_; intro v1 w1 ho1 hg1 hl1; simp only [Nat.zero_add, List.nil_append] at ho1; have HO1 := Lib.hid ho1; have BW1 := Lib.hid ((Below.refl w.heap.size w).grown ((World.grownBy_alloc w _ _).trans hg1) (Nat.le_refl _) (fun k hk => by simp [Value.ownBlock] at hk; omega)); (obtain ⟨va1, vc1, rfl⟩ := own_form ho1); have sz1 : w.heap.size ≤ w1.heap.size := BW1.out.size; clear ho1 hg1 hl1) | (at_builtin; refine wpList_append_own_at _ rfl (.tmp 84) (.tmp 88) 59 rfl w.heap.size 92 i0 (.agg #[.int .i64 0, .int .i64 0, .bool false, .bool false, .int .i64 0, .int .i64 0, .slice none 0 0]) 7 64 Try.underlying59 hi0 hz0 hz1 hz2 rfl (by decide) (.slice va1 (0) vc1) (0) _ rfl (HO1.out.alloc _) ⟨w1.heap.size, 0, none⟩ 1 1 [.int .i64 x, .int .i64 y, .bool false, .bool false, .int .i64 0, .int .i64 0, .slice none 0 0] rfl rfl (new7' w1 _) (by intro u hu; simp at hu; rcases hu with rfl | rfl | rfl | rfl | rfl | rfl | rfl <;> rfl) (by unfold maxLen; omega) (by omega) (by simp; omega) ?_; intro v2 w2 ho2 hg2 _ hl2; have HO2 := Lib.hid ho2; have BW2 := Lib.hid (BW1.out.trans ((Below.refl _ _).grown ((World.grownBy_alloc w1 _ _).trans hg2) sz1 (fun k hk => (own_block HO1.out hk).1))); (obtain ⟨va2, vc2, rfl⟩ := own_form ho2); have sz2 : w.heap.size ≤ w2.heap.size := BW2.out.size; have k02 := (BW2.out.cell (p := ⟨xb, 0, none⟩) xl).trans k0; clear ho2 hg2 hl2) | (at_builtin; refine wpList_append_any _ rfl (.tmp 91) (.tmp 97) 59 rfl w.heap.size 92 i0 (.agg #[.int .i64 0, .int .i64 0, .bool false, .bool false, .int .i64 0, .int .i64 0, .slice none 0 0]) 7 64 Try.underlying59 hi0 hz0 hz1 hz2 rfl (by decide) (.slice va2 (0 + 1) vc2) (0 + 1) _ rfl HO2.out w.heap.size none 0 0 ((a.tids.drop 0).flatMap (rtc a h.qv)) rfl (RD3.out.below BW2.out) ONE2.out (by unfold maxLen; omega) (by omega) (by omega) ?_; intro v3 w3 ho3 hg3 hl3; have HO3 := Lib.hid ho3; have BW3 := Lib.hid (BW2.out.trans ((Below.refl _ _).grown hg3 sz2 (fun k hk => (own_block HO2.out hk).1))); (obtain ⟨va3, vc3, rfl⟩ := own_form ho3); have k03 := (BW3.out.cell (p := ⟨xb, 0, none⟩) xl).trans k0; have f03 := (BW3.out.frozen (p := ⟨xb, 0, none⟩) xl).trans hfr; clear ho3 hg3 hl3))
            go_ret
            refine FINI.out w3 _ BW3.out ?_
            rw [HZ.out]
            simpa using HO3.out
          · by_cases hck : tc = k
            · have hkl' : k = a.tids.length := by omega
              subst hkl'
              subst hck
              have hd2 : decide ((a.tids.length : Int) < (a.tids.length : Int)) = false := by simp
              have RD3 := Lib.hid (show Reads w w.heap.size 7 (some ⟨gz, 0, none⟩) 0 ((a.tids.drop a.tids.length).flatMap (rtc a h.qv)) from ⟨by simp, fun h0 => absurd h0 (by omega)⟩)
              go_wp2_with (first | (at_builtin; refine wpList_append_any _ rfl (.tmp 76) (.tmp 82) 59 rfl w.heap.size 92 i0 (.agg #[.int .i64 0, .int .i64 0, .bool false, .bool false, .int .i64 0, .int .i64 0, .slice none 0 0]) 7 64 Try.underlying59 hi0 hz0 hz1 hz2 rfl (by decide) (.slice (some ⟨w.heap.size, 0, none⟩) 0 0) 0 [] rfl ⟨rfl, .inr ⟨w.heap.size, 0, #[], rfl, Nat.le_refl _, alloc_new w _, Nat.le_refl _, by decide, rfl, rfl⟩⟩ w.heap.size (some ⟨gz, 0, none⟩) a.tids.length a.tids.length ((a.tids.take a.tids.length).flatMap (rtc a h.qv)) rfl (RD1.out.alloc (Nat.le_refl _) _) ONE1.out (by unfold maxLen; omega) (by omega) (by simp) ?_; intro v1 w1 ho1 hg1 hl1; simp only [Nat.zero_add, List.nil_append] at ho1; have HO1 := Lib.hid ho1; have BW1 := Lib.hid ((Below.refl w.heap.size w).grown ((World.grownBy_alloc w _ _).trans hg1) (Nat.le_refl _) (fun k hk => by simp [Value.ownBlock] at hk; omega)); (obtain ⟨va1, vc1, rfl⟩ := own_form ho1); have sz1 : w.heap.size ≤ w1.heap.size := BW1.out.size; clear ho1 hg1 hl1) | (at_builtin; refine wpList_append_own_at _ rfl (.tmp 84) (.tmp 88) 59 rfl w.heap.size 92 i0 (.agg #[.int .i64 0, .int .i64 0, .bool false, .bool false, .int .i64 0, .int .i64 0, .slice none 0 0]) 7 64 Try.underlying59 hi0 hz0 hz1 hz2 rfl (by decide) (.slice va1 (a.tids.length) vc1) (a.tids.length) _ rfl (HO1.out.alloc _) ⟨w1.heap.size, 0, none⟩ 1 1 [.int .i64 x, .int .i64 y, .bool false, .bool false, .int .i64 0, .int .i64 0, .slice none 0 0] rfl rfl (new7' w1 _) (by intro u hu; simp at hu; rcases hu with rfl | rfl | rfl | rfl | rfl | rfl | rfl <;> rfl) (by unfold maxLen; omega) (by omega) (by simp; omega) ?_; intro v2 w2 ho2 hg2 _ hl2; have HO2 := Lib.hid ho2; have BW2 := Lib.hid (BW1.out.trans ((Below.refl _ _).grown ((World.grownBy_alloc w1 _ _).trans hg2) sz1 (fun k hk => (own_block HO1.out hk).1))); (obtain ⟨va2, vc2, rfl⟩ := own_form ho2); have sz2 : w.heap.size ≤ w2.heap.size := BW2.out.size; have k02 := (BW2.out.cell (p := ⟨xb, 0, none⟩) xl).trans k0; clear ho2 hg2 hl2) | (at_builtin; refine wpList_append_any _ rfl (.tmp 91) (.tmp 97) 59 rfl w.heap.size 92 i0 (.agg #[.int .i64 0, .int .i64 0, .bool false, .bool false, .int .i64 0, .int .i64 0, .slice none 0 0]) 7 64 Try.underlying59 hi0 hz0 hz1 hz2 rfl (by decide) (.slice va2 (a.tids.length + 1) vc2) (a.tids.length + 1) _ rfl HO2.out w.heap.size (some ⟨gz, 0, none⟩) 0 0 ((a.tids.drop a.tids.length).flatMap (rtc a h.qv)) rfl (RD3.out.below BW2.out) ONE2.out (by unfold maxLen; omega) (by omega) (by omega) ?_; intro v3 w3 ho3 hg3 hl3; have HO3 := Lib.hid ho3; have BW3 := Lib.hid (BW2.out.trans ((Below.refl _ _).grown hg3 sz2 (fun k hk => (own_block HO2.out hk).1))); (obtain ⟨va3, vc3, rfl⟩ := own_form ho3); have k03 := (BW3.out.cell (p := ⟨xb, 0, none⟩) xl).trans k0; have f03 := (BW3.out.frozen (p := ⟨xb, 0, none⟩) xl).trans hfr; clear ho3 hg3 hl3))
              go_ret
              exact FINI.out w3 _ BW3.out (by simpa using HO3.out)
            · have RD3 := Lib.hid (show Reads w w.heap.size 7 (some ⟨gz, k * 7, none⟩) (a.tids.length - k) ((a.tids.drop k).flatMap (rtc a h.qv)) from by
                have := HRD.out.cut hKl hcap
                rw [if_neg hck, ← HDRP.out] at this
                simpa [Addr.add_lit] using this)
              have htc0 : ¬ tc = 0 := by omega
              have hktc : k ≤ tc := by omega
              rcases hstop with ⟨hkl, gz', z, he, q0, hd3⟩ | hkl
              · simp only [Option.some.injEq, Addr.mk.injEq] at he
                obtain ⟨rfl, -⟩ := he
                have hd2 : decide ((k : Int) < (a.tids.length : Int)) = true := by simpa using hkl
                go_wp2_with (first | (at_builtin; refine wpList_append_any _ rfl (.tmp 76) (.tmp 82) 59 rfl w.heap.size 92 i0 (.agg #[.int .i64 0, .int .i64 0, .bool false, .bool false, .int .i64 0, .int .i64 0, .slice none 0 0]) 7 64 Try.underlying59 hi0 hz0 hz1 hz2 rfl (by decide) (.slice (some ⟨w.heap.size, 0, none⟩) 0 0) 0 [] rfl ⟨rfl, .inr ⟨w.heap.size, 0, #[], rfl, Nat.le_refl _, alloc_new w _, Nat.le_refl _, by decide, rfl, rfl⟩⟩ w.heap.size (some ⟨gz, 0, none⟩) k tc ((a.tids.take k).flatMap (rtc a h.qv)) rfl (RD1.out.alloc (Nat.le_refl _) _) ONE1.out (by unfold maxLen; omega) (by omega) (by simp) ?_; intro v1 w1 ho1 hg1 hl1; simp only [Nat.zero_add, List.nil_append] at ho1; have HO1 := Lib.hid ho1; have BW1 := Lib.hid ((Below.refl w.heap.size w).grown ((World.grownBy_alloc w _ _).trans hg1) (Nat.le_refl _) (fun k hk => by simp [Value.ownBlock] at hk; omega)); (obtain ⟨va1, vc1, rfl⟩ := own_form ho1); have sz1 : w.heap.size ≤ w1.heap.size := BW1.out.size; clear ho1 hg1 hl1) | (at_builtin; refine wpList_append_own_at _ rfl (.tmp 84) (.tmp 88) 59 rfl w.heap.size 92 i0 (.agg #[.int .i64 0, .int .i64 0, .bool false, .bool false, .int .i64 0, .int .i64 0, .slice none 0 0]) 7 64 Try.underlying59 hi0 hz0 hz1 hz2 rfl (by decide) (.slice va1 (k) vc1) (k) _ rfl (HO1.out.alloc _) ⟨w1.heap.size, 0, none⟩ 1 1 [.int .i64 x, .int .i64 y, .bool false, .bool false, .int .i64 0, .int .i64 0, .slice none 0 0] rfl rfl (new7' w1 _) (by intro u hu; simp at hu; rcases hu with rfl | rfl | rfl | rfl | rfl | rfl | rfl <;> rfl) (by unfold maxLen; omega) (by omega) (by simp; omega) ?_; intro v2 w2 ho2 hg2 _ hl2; have HO2 := Lib.hid ho2; have BW2 := Lib.hid (BW1.out.trans ((Below.refl _ _).grown ((World.grownBy_alloc w1 _ _).trans hg2) sz1 (fun k hk => (own_block HO1.out hk).1))); (obtain ⟨va2, vc2, rfl⟩ := own_form ho2); have sz2 : w.heap.size ≤ w2.heap.size := BW2.out.size; have k02 := (BW2.out.cell (p := ⟨xb, 0, none⟩) xl).trans k0; clear ho2 hg2 hl2) | (at_builtin; refine wpList_append_any _ rfl (.tmp 91) (.tmp 97) 59 rfl w.heap.size 92 i0 (.agg #[.int .i64 0, .int .i64 0, .bool false, .bool false, .int .i64 0, .int .i64 0, .slice none 0 0]) 7 64 Try.underlying59 hi0 hz0 hz1 hz2 rfl (by decide) (.slice va2 (k + 1) vc2) (k + 1) _ rfl HO2.out w.heap.size (some ⟨gz, k * 7, none⟩) (a.tids.length - k) (tc - k) ((a.tids.drop k).flatMap (rtc a h.qv)) rfl (RD3.out.below BW2.out) ONE2.out (by unfold maxLen; omega) (by omega) (by omega) ?_; intro v3 w3 ho3 hg3 hl3; have HO3 := Lib.hid ho3; have BW3 := Lib.hid (BW2.out.trans ((Below.refl _ _).grown hg3 sz2 (fun k hk => (own_block HO2.out hk).1))); (obtain ⟨va3, vc3, rfl⟩ := own_form ho3); have k03 := (BW3.out.cell (p := ⟨xb, 0, none⟩) xl).trans k0; have f03 := (BW3.out.frozen (p := ⟨xb, 0, none⟩) xl).trans hfr; clear ho3 hg3 hl3))
                go_ret
                exact FINI.out w3 _ BW3.out (by simpa using HO3.out)
              · subst hkl
                have hd2 : decide ((a.tids.length : Int) < (a.tids.length : Int)) = false := by simp
                have RD3 := Lib.hid (show Reads w w.heap.size 7 (some ⟨gz, a.tids.length * 7, none⟩) 0 ((a.tids.drop a.tids.length).flatMap (rtc a h.qv)) from ⟨by simp, fun h0 => absurd h0 (by omega)⟩)
                go_wp2_with (first | (at_builtin; refine wpList_append_any _ rfl (.tmp 76) (.tmp 82) 59 rfl w.heap.size 92 i0 (.agg #[.int .i64 0, .int .i64 0, .bool false, .bool false, .int .i64 0, .int .i64 0, .slice none 0 0]) 7 64 Try.underlying59 hi0 hz0 hz1 hz2 rfl (by decide) (.slice (some ⟨w.heap.size, 0, none⟩) 0 0) 0 [] rfl ⟨rfl, .inr ⟨w.heap.size, 0, #[], rfl, Nat.le_refl _, alloc_new w _, Nat.le_refl _, by decide, rfl, rfl⟩⟩ w.heap.size (some ⟨gz, 0, none⟩) a.tids.length tc ((a.tids.take a.tids.length).flatMap (rtc a h.qv)) rfl (RD1.out.alloc (Nat.le_refl _) _) ONE1.out (by unfold maxLen; omega) (by omega) (by simp) ?_; intro v1 w1 ho1 hg1 hl1; simp only [Nat.zero_add, List.nil_append] at ho1; have HO1 := Lib.hid ho1; have BW1 := Lib.hid ((Below.refl w.heap.size w).grown ((World.grownBy_alloc w _ _).trans hg1) (Nat.le_refl _) (fun k hk => by simp [Value.ownBlock] at hk; omega)); (obtain ⟨va1, vc1, rfl⟩ := own_form ho1); have sz1 : w.heap.size ≤ w1.heap.size := BW1.out.size; clear ho1 hg1 hl1) | (at_builtin; refine wpList_append_own_at _ rfl (.tmp 84) (.tmp 88) 59 rfl w.heap.size 92 i0 (.agg #[.int .i64 0, .int .i64 0, .bool false, .bool false, .int .i64 0, .int .i64 0, .slice none 0 0]) 7 64 Try.underlying59 hi0 hz0 hz1 hz2 rfl (by decide) (.slice va1 (a.tids.length) vc1) (a.tids.length) _ rfl (HO1.out.alloc _) ⟨w1.heap.size, 0, none⟩ 1 1 [.int .i64 x, .int .i64 y, .bool false, .bool false, .int .i64 0, .int .i64 0, .slice none 0 0] rfl rfl (new7' w1 _) (by intro u hu; simp at hu; rcases hu with rfl | rfl | rfl | rfl | rfl | rfl | rfl <;> rfl) (by unfold maxLen; omega) (by omega) (by simp; omega) ?_; intro v2 w2 ho2 hg2 _ hl2; have HO2 := Lib.hid ho2; have BW2 := Lib.hid (BW1.out.trans ((Below.refl _ _).grown ((World.grownBy_alloc w1 _ _).trans hg2) sz1 (fun k hk => (own_block HO1.out hk).1))); (obtain ⟨va2, vc2, rfl⟩ := own_form ho2); have sz2 : w.heap.size ≤ w2.heap.size := BW2.out.size; have k02 := (BW2.out.cell (p := ⟨xb, 0, none⟩) xl).trans k0; clear ho2 hg2 hl2) | (at_builtin; refine wpList_append_any _ rfl (.tmp 91) (.tmp 97) 59 rfl w.heap.size 92 i0 (.agg #[.int .i64 0, .int .i64 0, .bool false, .bool false, .int .i64 0, .int .i64 0, .slice none 0 0]) 7 64 Try.underlying59 hi0 hz0 hz1 hz2 rfl (by decide) (.slice va2 (a.tids.length + 1) vc2) (a.tids.length + 1) _ rfl HO2.out w.heap.size (some ⟨gz, a.tids.length * 7, none⟩) 0 (tc - a.tids.length) ((a.tids.drop a.tids.length).flatMap (rtc a h.qv)) rfl (RD3.out.below BW2.out) ONE2.out (by unfold maxLen; omega) (by omega) (by omega) ?_; intro v3 w3 ho3 hg3 hl3; have HO3 := Lib.hid ho3; have BW3 := Lib.hid (BW2.out.trans ((Below.refl _ _).grown hg3 sz2 (fun k hk => (own_block HO2.out hk).1))); (obtain ⟨va3, vc3, rfl⟩ := own_form ho3); have k03 := (BW3.out.cell (p := ⟨xb, 0, none⟩) xl).trans k0; have f03 := (BW3.out.frozen (p := ⟨xb, 0, none⟩) xl).trans hfr; clear ho3 hg3 hl3))
                go_ret
                exact FINI.out w3 _ BW3.out (by simpa using HO3.out)
end Go.Proofs.Ytkmgbnklfnjfjaa.Ker
