import Derived.Test.YtkmgbnklfnjfjaaSO
import Derived.Shelf.SlSortCmp.NoneTotal
/-! Tasks are sorted by their numbers. -/
namespace Go.Proofs.Ytkmgbnklfnjfjaa.Ker
open Go.Shelf Go.RowKit Go.Lib Go.Sort Go.Maps

/-- A task as Tasks tells it: its number, what is known, its queue's slice. -/
abbrev TE := Int × T × (Option Addr × Nat × Nat)
instance : Inhabited T := ⟨⟨0, false, false, 0, 0⟩⟩
def encT (x : TE) : List Value := [.int .i64 x.1, .int .i64 x.2.1.pri, .bool x.2.1.held, .bool x.2.1.waiting, .int .i64 x.2.1.forr, .int .i64 x.2.1.flags, .slice x.2.2.1 x.2.2.2.1 x.2.2.2.2]
theorem cmp_lt (x y : Int) : decide (Lib.compareInt x y < 0) = decide (x < y) := by
  unfold Lib.compareInt
  by_cases h1 : x < y
  · simp [h1]
  · by_cases h2 : y < x <;> simp [h1, h2]
theorem ltT (x y : TE) : ltOf (fun x y : TE => Lib.compareInt x.1 y.1) x y = decide (x.1 < y.1) := cmp_lt _ _
theorem swoT : SWO (ltOf fun x y : TE => Lib.compareInt x.1 y.1) where
  irrefl x := by rw [ltT]; simp
  trans x y z h1 h2 := by rw [ltT] at *; simp at *; omega
  ntrans x y z h1 h2 := by rw [ltT] at *; simp at *; omega

set_option maxHeartbeats 1000000 in
theorem closure35 (x y : TE) (W : World) : Calls Try.prog 35 #[.agg (encT x).toArray, .agg (encT y).toArray] W fun e w' => e = .returned (.int .i64 (Lib.compareInt x.1 y.1)) ∧ ∃ q os', w' = grow (W.drewN q) os' := by
  have hcon := fun W' => AnyG.cmp_Compare_int cmpI x.1 y.1 W'
  change ∀ W', Calls Try.prog 36 _ _ _ at hcon
  generalize Lib.compareInt x.1 y.1 = r at hcon ⊢
  unfold encT
  go_enter Try.func35, Try.ntmps35
  go_wp2_with (go_at_call 36; refine (hcon _).mono ?_; rintro e w' ⟨rfl, rfl⟩)
  go_ret
  exact ⟨rfl, 0, _, by rw [alloc_eq_grow, alloc_eq_grow, grow_grow]; rfl⟩
theorem cmpLays35 (blk off size : Nat) (w : World) : CmpLays Try.prog 35 #[] encT 7 (fun x y => Lib.compareInt x.1 y.1) blk off size w :=
  fun _ _ _ _ x y => closure35 x y _

theorem flatK_list (d : Array TE) : (flatK encT 7 d).toList = d.toList.flatMap encT := by
  apply List.ext_getElem?
  intro k
  have key : ∀ (l : List TE) (k : Nat), (l.flatMap encT)[k]? = (l[k / 7]?).bind fun x => (encT x)[k % 7]? := by
    intro l
    induction l with
    | nil => intro k; simp
    | cons x l ih =>
      intro k
      have e : (x :: l).flatMap encT = encT x ++ l.flatMap encT := rfl
      have hl : (encT x).length = 7 := rfl
      rw [e]
      by_cases hk : k < 7
      · rw [List.getElem?_append_left (by omega), show k / 7 = 0 from by omega, show k % 7 = k from by omega]
        rfl
      · rw [List.getElem?_append_right (by omega), hl, ih, show k / 7 = (k - 7) / 7 + 1 from by omega, show k % 7 = (k - 7) % 7 from by omega]
        rfl
  rw [key]
  by_cases hk : k < d.size * 7
  · have h1 : (flatK encT 7 d).toList[k]? = some ((flatK encT 7 d)[k]!) := by
      rw [Array.getElem?_toList, getElem!_pos _ k (by simpa using hk), Array.getElem?_eq_getElem]
    rw [h1, get_flatK _ _ _ _ hk]
    have hd : k / 7 < d.size := by omega
    have h2 : d.toList[k / 7]? = some d[k / 7]! := by rw [Array.getElem?_toList, getElem!_pos d _ hd, Array.getElem?_eq_getElem]
    rw [h2, Option.bind_some]
    have h3 : k % 7 < (encT d[k / 7]!).length := by show _ < 7; omega
    rw [List.getElem!_eq_getElem?_getD, List.getElem?_eq_getElem h3]
    rfl
  · rw [List.getElem?_eq_none (by simp; omega), List.getElem?_eq_none (by simp; omega)]
    rfl

theorem flatT_len : ∀ L : List TE, (L.flatMap encT).length = L.length * 7
  | [] => rfl
  | x :: L => by
    have e : (x :: L).flatMap encT = encT x ++ L.flatMap encT := rfl
    rw [e, List.length_append, flatT_len L]
    show 7 + _ = (L.length + 1) * 7
    omega
theorem put_take (F cur : Array Value) (h : F.size ≤ cur.size) : (putCells id 0 F cur).toList.take F.size = F.toList := by
  apply List.ext_getElem?
  intro k
  by_cases hk : k < F.size
  · rw [List.getElem?_take_of_lt hk, Array.getElem?_toList, Array.getElem?_toList]
    unfold putCells
    rw [Array.getElem?_mapIdx, Array.getElem?_eq_getElem (show k < cur.size by omega), Option.map_some, if_pos ⟨by omega, by omega⟩, Array.getElem?_eq_getElem hk]
    simp [hk]
  · rw [List.getElem?_eq_none (by simp; omega), List.getElem?_eq_none (by simp; omega)]
theorem sort_world {n : Nat} (B g c m : Nat) (v : Value) (hv : v = .slice (some ⟨g, 0, none⟩) n c) (w : World) (d' : Array TE) (os : Array Obj) (xs : List Value) (h : w.ownsRow B 55 7 v n xs) (hd : d'.size = n) :
    (sortWorldK encT 7 w g 0 m d' os).ownsRow B 55 7 v n (d'.toList.flatMap encT) ∧ Touch w (sortWorldK encT 7 w g 0 m d' os) (fun k => k = g) := by
  rcases h with ⟨h0, h2 | ⟨g', cap, cur, hv', hb, hg, h1, h2, h3, h4⟩⟩
  · rw [hv] at h2; cases h2.1
  · rw [hv] at hv'
    simp only [Value.slice.injEq, Option.some.injEq, Addr.mk.injEq] at hv'
    obtain ⟨⟨rfl, -⟩, -, rfl⟩ := hv'
    have hgl : g < w.heap.size := blt hg
    have hheap : (sortWorldK encT 7 w g 0 m d' os).heap = w.heap.modify g (onCells (putCells id 0 (flatK encT 7 d'))) ++ os := rfl
    have hFs : (flatK encT 7 d').size = n * 7 := by rw [size_flatK, hd]
    have hnew : (sortWorldK encT 7 w g 0 m d' os).heap[g]? = some (.cells (putCells id 0 (flatK encT 7 d') cur) 55 (0, 0)) := by
      rw [hheap, Array.getElem?_append_left (by simpa using hgl), Array.getElem?_modify, if_pos rfl, hg]
      rfl
    refine ⟨⟨by rw [flatT_len, Array.length_toList, hd], .inr ⟨g, c, putCells id 0 (flatK encT 7 d') cur, hv, hb, hnew, h1, h2, ?_, ?_⟩⟩, ?_⟩
    · simpa [putCells] using h3
    · have := put_take (flatK encT 7 d') cur (by rw [hFs, h3]; exact Nat.mul_le_mul_right _ h1)
      rw [hFs, flatK_list] at this
      exact this
    · refine ⟨rfl, rfl, rfl, ?_, fun k hk hne => ?_⟩
      · rw [hheap]; simp
      · rw [hheap, Array.getElem?_append_left (by simpa using hk), Array.getElem?_modify, if_neg (fun e => hne e.symm)]
theorem sorted_ids {d d' : Array TE} (hp : PermIn 0 d.size d d') (hs : SortedIn (ltOf fun x y : TE => Lib.compareInt x.1 y.1) 0 d.size d') (nd : (d.toList.map (·.1)).Nodup) : d'.toList.Perm d.toList ∧ (d'.toList.map (·.1)).Pairwise (· < ·) := by
  obtain ⟨h1, _, h3⟩ := hp
  have e1 : d'.extract 0 d.size = d' := by rw [← h1]; simp
  have e2 : d.extract 0 d.size = d := by simp
  rw [e1, e2] at h3
  refine ⟨h3, ?_⟩
  have nd' : (d'.toList.map (·.1)).Nodup := (h3.map (·.1)).nodup_iff.2 nd
  rw [List.pairwise_iff_getElem]
  intro i j hi hj hij
  simp only [List.length_map, Array.length_toList] at hi hj
  have := hs i j (Nat.zero_le _) hij (by omega)
  rw [ltT] at this
  simp only [decide_eq_false_iff_not] at this
  simp only [List.getElem_map, Array.getElem_toList]
  have g1 : d'[i]! = d'[i] := getElem!_pos d' i hi
  have g2 : d'[j]! = d'[j] := getElem!_pos d' j hj
  rw [g1, g2] at this
  have hne : (d'[i]).1 ≠ (d'[j]).1 := by
    intro e
    have h5 := (List.getElem_inj (xs := d'.toList.map (·.1)) (i := i) (j := j) (h₀ := by simpa using hi) (h₁ := by simpa using hj) nd').1 (by simpa using e)
    omega
  omega
set_option maxHeartbeats 1000000 in
/-- The tasks' row is sorted. -/
theorem sort_row (B : Nat) (v : Value) (L : List TE) (w : World) (h : w.ownsRow B 55 7 v L.length (L.flatMap encT)) (hn : L.length ≤ 1000) (nd : (L.map (·.1)).Nodup) :
    Calls Try.prog 34 #[v, .func (.func 35) #[] #[]] w fun e w' => e = .returned (.tuple #[]) ∧ ∃ L' : List TE, L'.Perm L ∧ (L'.map (·.1)).Pairwise (· < ·) ∧ w'.ownsRow B 55 7 v L.length (L'.flatMap encT) ∧ Touch w w' (fun k => some k = v.ownBlock) := by
  by_cases h0 : L.length = 0
  · obtain rfl : L = [] := List.length_eq_zero_iff.1 h0
    obtain ⟨va, vc, rfl⟩ := own_form h
    have hcon := AnyF.slices_SortFunc_none sortT va vc (.func (.func 35) #[] #[]) w
    change Calls Try.prog 34 _ _ _ at hcon
    refine hcon.mono ?_
    rintro e w' ⟨rfl, rfl⟩
    exact ⟨rfl, [], List.Perm.refl _, List.Pairwise.nil, h, Touch.refl _ _⟩
  · have h' := h
    rcases h'.2 with ⟨_, h2⟩ | ⟨g, cap, cur, hv, hb, hg, h1, h2, h3, h4⟩
    · exact absurd h2 h0
    · have eg : ∀ args w, (callFunc 35 args).run Try.prog w = .ok (.enter 35 args) w := enters_of Try.func35 (by kernel_rfl) rfl
      have hH : HoldsK encT 7 w g 0 L.toArray := by
        intro j hj
        rw [size_flatK] at hj
        simp only [List.size_toArray] at hj
        have hF : (flatK encT 7 L.toArray)[j]? = (L.flatMap encT)[j]? := by rw [← Array.getElem?_toList, flatK_list]
        constructor
        · rw [cell_of hg, Nat.zero_add, id]
          have h5 : cur[j]? = (L.flatMap encT)[j]? := by
            rw [← h4, List.getElem?_take_of_lt hj, Array.getElem?_toList]
          rw [h5, ← hF]
          have hjs : j < (flatK encT 7 L.toArray).size := by simpa using hj
          rw [getElem!_pos _ j hjs, Array.getElem?_eq_getElem]
        · exact free_of hg _
      have hcon := AnyQ.slices_SortFunc sortT 7 Try.isAgg55 Try.sizeOf55 encT (fun _ => rfl) (fun x v hv => by simp [encT] at hv; rcases hv with rfl | rfl | rfl | rfl | rfl | rfl | rfl <;> rfl) (fun x y => Lib.compareInt x.1 y.1) swoT 35 #[] g 0 cap L.toArray w eg (cmpLays35 g 0 L.toArray.size w) hH (blt hg) (by simp; omega)
      change Calls Try.prog 34 _ _ _ at hcon
      rw [hv]
      refine hcon.mono ?_
      rintro e w' ⟨rfl, d', m, os, hp, hs, rfl⟩
      obtain ⟨hperm, hpw⟩ := sorted_ids hp hs nd
      have hsz : d'.size = L.length := hp.1
      obtain ⟨r1, r2⟩ := sort_world B g cap m v hv w d' os _ h hsz
      refine ⟨rfl, d'.toList, hperm, hpw, by rw [← hv]; exact r1, r2.mono (fun k _ hk => ?_)⟩
      rw [hk]; rfl
end Go.Proofs.Ytkmgbnklfnjfjaa.Ker
