import Derived.Shelf.SlSortCmp.WholeK
import Derived.Shelf.SlicesG.Cmp
import Derived.Test.YtkmgbnklfnjfjaaLB
import Derived.Shelf.SlSortCmp.NoneTotal
/-! slices.SortFunc at tasks, and cmp.Compare: the shelf's contracts laid at this program. -/
namespace Go.Proofs.Ytkmgbnklfnjfjaa.Ker
open Go.Shelf Go.RowKit Go.Lib Go.Sort

def sortT_ren : Go.Shelf.Ren := ⟨fun | 6 => 34 | 15 => 54 | 14 => 53 | 28 => 86 | 29 => 87 | 20 => 78 | 21 => 79 | 22 => 80 | 23 => 81 | 24 => 82 | 25 => 83 | 26 => 84 | 27 => 85 | 46 => 93 | 47 => 94 | 48 => 95 | 49 => 96 | 50 => 97 | 57 => 98 | n => n, fun | 22 => 52 | 24 => 55 | 25 => 91 | 3 => 3 | 39 => 98 | 0 => 0 | 53 => 128 | 55 => 130 | 4 => 4 | 46 => 121 | 45 => 120 | 50 => 125 | 5 => 5 | 9 => 9 | 66 => 136 | 70 => 140 | 76 => 142 | 77 => 143 | n => n, fun n => n⟩
theorem sortT : SlLaysF0.n6 Try.prog sortT_ren := {
  mixed := by kernel_rfl,
  f6 := ⟨Try.f34.name, by decide, Try.func34.trans (congrArg some (by kernel_rfl))⟩,
  f14 := ⟨Try.f53.name, by decide, Try.func53.trans (congrArg some (by kernel_rfl))⟩,
  f15 := Try.func54.trans (congrArg some (by kernel_rfl)),
  f20 := ⟨Try.f78.name, by decide, Try.func78.trans (congrArg some (by kernel_rfl))⟩,
  f21 := ⟨Try.f79.name, by decide, Try.func79.trans (congrArg some (by kernel_rfl))⟩,
  f22 := ⟨Try.f80.name, by decide, Try.func80.trans (congrArg some (by kernel_rfl))⟩,
  f23 := ⟨Try.f81.name, by decide, Try.func81.trans (congrArg some (by kernel_rfl))⟩,
  f24 := ⟨Try.f82.name, by decide, Try.func82.trans (congrArg some (by kernel_rfl))⟩,
  f25 := ⟨Try.f83.name, by decide, Try.func83.trans (congrArg some (by kernel_rfl))⟩,
  f26 := ⟨Try.f84.name, by decide, Try.func84.trans (congrArg some (by kernel_rfl))⟩,
  f27 := ⟨Try.f85.name, by decide, Try.func85.trans (congrArg some (by kernel_rfl))⟩,
  f28 := Try.func86.trans (congrArg some (by kernel_rfl)),
  f29 := Try.func87.trans (congrArg some (by kernel_rfl)),
  f46 := ⟨Try.f93.name, by decide, Try.func93.trans (congrArg some (by kernel_rfl))⟩,
  f47 := Try.func94.trans (congrArg some (by kernel_rfl)),
  f48 := Try.func95.trans (congrArg some (by kernel_rfl)),
  f49 := ⟨Try.f96.name, by decide, Try.func96.trans (congrArg some (by kernel_rfl))⟩,
  f50 := ⟨Try.f97.name, by decide, Try.func97.trans (congrArg some (by kernel_rfl))⟩,
  f57 := ⟨Try.f98.name, by decide, Try.func98.trans (congrArg some (by kernel_rfl))⟩,
  t0 := Try.underlying0,
  a0 := Try.isAgg0,
  z0 := Try.sizeOf0,
  v0 := Try.zeroValue0,
  t3 := Try.underlying3,
  a3 := Try.isAgg3,
  z3 := Try.sizeOf3,
  v3 := Try.zeroValue3,
  t4 := Try.underlying4,
  a4 := Try.isAgg4,
  z4 := Try.sizeOf4,
  v4 := Try.zeroValue4,
  t5 := Try.underlying5,
  a5 := Try.isAgg5,
  z5 := Try.sizeOf5,
  v5 := Try.zeroValue5,
  t9 := Try.underlying9,
  a9 := Try.isAgg9,
  z9 := Try.sizeOf9,
  v9 := Try.zeroValue9,
  t22 := Try.underlying52,
  a22 := Try.isAgg52,
  z22 := Try.sizeOf52,
  v22 := Try.zeroValue52,
  t25 := Try.underlying91,
  a25 := Try.isAgg91,
  z25 := Try.sizeOf91,
  v25 := Try.zeroValue91,
  t39 := Try.underlying98,
  a39 := Try.isAgg98,
  z39 := Try.sizeOf98,
  v39 := Try.zeroValue98,
  t45 := Try.underlying120,
  a45 := Try.isAgg120,
  z45 := Try.sizeOf120,
  v45 := Try.zeroValue120,
  t46 := Try.underlying121,
  a46 := Try.isAgg121,
  z46 := Try.sizeOf121,
  v46 := Try.zeroValue121,
  t50 := Try.underlying125,
  a50 := Try.isAgg125,
  z50 := Try.sizeOf125,
  v50 := Try.zeroValue125,
  t53 := Try.underlying128,
  a53 := Try.isAgg128,
  z53 := Try.sizeOf128,
  v53 := Try.zeroValue128,
  t55 := Try.underlying130,
  a55 := Try.isAgg130,
  z55 := Try.sizeOf130,
  v55 := Try.zeroValue130,
  t66 := Try.underlying136,
  a66 := Try.isAgg136,
  z66 := Try.sizeOf136,
  v66 := Try.zeroValue136,
  t70 := Try.underlying140,
  a70 := Try.isAgg140,
  z70 := Try.sizeOf140,
  v70 := Try.zeroValue140,
  t76 := Try.underlying142,
  a76 := Try.isAgg142,
  z76 := Try.sizeOf142,
  v76 := Try.zeroValue142,
  t77 := Try.underlying143,
  a77 := Try.isAgg143,
  z77 := Try.sizeOf143,
  v77 := Try.zeroValue143 }
def cmpI_ren : Go.Shelf.Ren := ⟨fun | 5 => 36 | 7 => 55 | n => n, fun | 22 => 3 | 3 => 3 | 4 => 4 | n => n, fun n => n⟩
theorem cmpI : SlLaysC2.n5 Try.prog cmpI_ren := {
  mixed := by kernel_rfl,
  f5 := ⟨Try.f36.name, by decide, Try.func36.trans (congrArg some (by kernel_rfl))⟩,
  f7 := ⟨Try.f55.name, by decide, Try.func55.trans (congrArg some (by kernel_rfl))⟩,
  t3 := Try.underlying3,
  a3 := Try.isAgg3,
  z3 := Try.sizeOf3,
  v3 := Try.zeroValue3,
  t4 := Try.underlying4,
  a4 := Try.isAgg4,
  z4 := Try.sizeOf4,
  v4 := Try.zeroValue4,
  t22 := Try.underlying3,
  a22 := Try.isAgg3,
  z22 := Try.sizeOf3,
  v22 := Try.zeroValue3 }
end Go.Proofs.Ytkmgbnklfnjfjaa.Ker
/-! Tasks are sorted by their numbers. -/
namespace Go.Proofs.Ytkmgbnklfnjfjaa.Ker
open Go.Shelf Go.RowKit Go.Lib Go.Sort Go.Maps

/-- A task as Tasks tells it: its number, what is known, its queue's slice. -/
abbrev TE := Int × T × (Option Addr × Nat × Nat)
instance : Inhabited T := ⟨⟨0, false, false, 0, 0⟩⟩
def encT (x : TE) : List Value := [.int .i64 x.1, .int .i64 x.2.1.pri, .bool x.2.1.held, .bool x.2.1.waiting, .int .i64 x.2.1.forr, .int .i64 x.2.1.flags, .slice x.2.2.1 x.2.2.2.1 x.2.2.2.2]
theorem cmp_lt (x y : Int) : decide (Lib.compareInt x y < 0) = decide (x < y) := by
  unfold Lib.compareInt
  by_cases h1 : x < y
  · simp [h1]
  · by_cases h2 : y < x <;> simp [h1, h2]
theorem ltT (x y : TE) : ltOf (fun x y : TE => Lib.compareInt x.1 y.1) x y = decide (x.1 < y.1) := cmp_lt _ _
theorem swoT : SWO (ltOf fun x y : TE => Lib.compareInt x.1 y.1) where
  irrefl x := by rw [ltT]; simp
  trans x y z h1 h2 := by rw [ltT] at *; simp at *; omega
  ntrans x y z h1 h2 := by rw [ltT] at *; simp at *; omega

set_option maxHeartbeats 1000000 in
theorem closure35 (x y : TE) (W : World) : Calls Try.prog 35 #[.agg (encT x).toArray, .agg (encT y).toArray] W fun e w' => e = .returned (.int .i64 (Lib.compareInt x.1 y.1)) ∧ ∃ q os', w' = grow (W.drewN q) os' := by
  have hcon := fun W' => AnyG.cmp_Compare_int cmpI x.1 y.1 W'
  change ∀ W', Calls Try.prog 36 _ _ _ at hcon
  generalize Lib.compareInt x.1 y.1 = r at hcon ⊢
  unfold encT
  go_enter Try.func35, Try.ntmps35
  go_wp2_with (go_at_call 36; refine (hcon _).mono ?_; rintro e w' ⟨rfl, rfl⟩)
  go_ret
  exact ⟨rfl, 0, _, by rw [alloc_eq_grow, alloc_eq_grow, grow_grow]; rfl⟩
theorem cmpLays35 (blk off size : Nat) (w : World) : CmpLays Try.prog 35 #[] encT 7 (fun x y => Lib.compareInt x.1 y.1) blk off size w :=
  fun _ _ _ _ x y => closure35 x y _

theorem flatK_list (d : Array TE) : (flatK encT 7 d).toList = d.toList.flatMap encT := by
  apply List.ext_getElem?
  intro k
  have key : ∀ (l : List TE) (k : Nat), (l.flatMap encT)[k]? = (l[k / 7]?).bind fun x => (encT x)[k % 7]? := by
    intro l
    induction l with
    | nil => intro k; simp
    | cons x l ih =>
      intro k
      have e : (x :: l).flatMap encT = encT x ++ l.flatMap encT := rfl
      have hl : (encT x).length = 7 := rfl
      rw [e]
      by_cases hk : k < 7
      · rw [List.getElem?_append_left (by omega), show k / 7 = 0 from by omega, show k % 7 = k from by omega]
        rfl
      · rw [List.getElem?_append_right (by omega), hl, ih, show k / 7 = (k - 7) / 7 + 1 from by omega, show k % 7 = (k - 7) % 7 from by omega]
        rfl
  rw [key]
  by_cases hk : k < d.size * 7
  · have h1 : (flatK encT 7 d).toList[k]? = some ((flatK encT 7 d)[k]!) := by
      rw [Array.getElem?_toList, getElem!_pos _ k (by simpa using hk), Array.getElem?_eq_getElem]
    rw [h1, get_flatK _ _ _ _ hk]
    have hd : k / 7 < d.size := by omega
    have h2 : d.toList[k / 7]? = some d[k / 7]! := by rw [Array.getElem?_toList, getElem!_pos d _ hd, Array.getElem?_eq_getElem]
    rw [h2, Option.bind_some]
    have h3 : k % 7 < (encT d[k / 7]!).length := by show _ < 7; omega
    rw [List.getElem!_eq_getElem?_getD, List.getElem?_eq_getElem h3]
    rfl
  · rw [List.getElem?_eq_none (by simp; omega), List.getElem?_eq_none (by simp; omega)]
    rfl

theorem flatT_len : ∀ L : List TE, (L.flatMap encT).length = L.length * 7
  | [] => rfl
  | x :: L => by
    have e : (x :: L).flatMap encT = encT x ++ L.flatMap encT := rfl
    rw [e, List.length_append, flatT_len L]
    show 7 + _ = (L.length + 1) * 7
    omega
theorem put_take (F cur : Array Value) (h : F.size ≤ cur.size) : (putCells id 0 F cur).toList.take F.size = F.toList := by
  apply List.ext_getElem?
  intro k
  by_cases hk : k < F.size
  · rw [List.getElem?_take_of_lt hk, Array.getElem?_toList, Array.getElem?_toList]
    unfold putCells
    rw [Array.getElem?_mapIdx, Array.getElem?_eq_getElem (show k < cur.size by omega), Option.map_some, if_pos ⟨by omega, by omega⟩, Array.getElem?_eq_getElem hk]
    simp [hk]
  · rw [List.getElem?_eq_none (by simp; omega), List.getElem?_eq_none (by simp; omega)]
theorem sort_world {n : Nat} (B g c m : Nat) (v : Value) (hv : v = .slice (some ⟨g, 0, none⟩) n c) (w : World) (d' : Array TE) (os : Array Obj) (xs : List Value) (h : w.ownsRow B 55 7 v n xs) (hd : d'.size = n) :
    (sortWorldK encT 7 w g 0 m d' os).ownsRow B 55 7 v n (d'.toList.flatMap encT) ∧ Touch w (sortWorldK encT 7 w g 0 m d' os) (fun k => k = g) := by
  rcases h with ⟨h0, h2 | ⟨g', cap, cur, hv', hb, hg, h1, h2, h3, h4⟩⟩
  · rw [hv] at h2; cases h2.1
  · rw [hv] at hv'
    simp only [Value.slice.injEq, Option.some.injEq, Addr.mk.injEq] at hv'
    obtain ⟨⟨rfl, -⟩, -, rfl⟩ := hv'
    have hgl : g < w.heap.size := blt hg
    have hheap : (sortWorldK encT 7 w g 0 m d' os).heap = w.heap.modify g (onCells (putCells id 0 (flatK encT 7 d'))) ++ os := rfl
    have hFs : (flatK encT 7 d').size = n * 7 := by rw [size_flatK, hd]
    have hnew : (sortWorldK encT 7 w g 0 m d' os).heap[g]? = some (.cells (putCells id 0 (flatK encT 7 d') cur) 55 (0, 0)) := by
      rw [hheap, Array.getElem?_append_left (by simpa using hgl), Array.getElem?_modify, if_pos rfl, hg]
      rfl
    refine ⟨⟨by rw [flatT_len, Array.length_toList, hd], .inr ⟨g, c, putCells id 0 (flatK encT 7 d') cur, hv, hb, hnew, h1, h2, ?_, ?_⟩⟩, ?_⟩
    · simpa [putCells] using h3
    · have := put_take (flatK encT 7 d') cur (by rw [hFs, h3]; exact Nat.mul_le_mul_right _ h1)
      rw [hFs, flatK_list] at this
      exact this
    · refine ⟨rfl, rfl, rfl, ?_, fun k hk hne => ?_⟩
      · rw [hheap]; simp
      · rw [hheap, Array.getElem?_append_left (by simpa using hk), Array.getElem?_modify, if_neg (fun e => hne e.symm)]
theorem sorted_ids {d d' : Array TE} (hp : PermIn 0 d.size d d') (hs : SortedIn (ltOf fun x y : TE => Lib.compareInt x.1 y.1) 0 d.size d') (nd : (d.toList.map (·.1)).Nodup) : d'.toList.Perm d.toList ∧ (d'.toList.map (·.1)).Pairwise (· < ·) := by
  obtain ⟨h1, _, h3⟩ := hp
  have e1 : d'.extract 0 d.size = d' := by rw [← h1]; simp
  have e2 : d.extract 0 d.size = d := by simp
  rw [e1, e2] at h3
  refine ⟨h3, ?_⟩
  have nd' : (d'.toList.map (·.1)).Nodup := (h3.map (·.1)).nodup_iff.2 nd
  rw [List.pairwise_iff_getElem]
  intro i j hi hj hij
  simp only [List.length_map, Array.length_toList] at hi hj
  have := hs i j (Nat.zero_le _) hij (by omega)
  rw [ltT] at this
  simp only [decide_eq_false_iff_not] at this
  simp only [List.getElem_map, Array.getElem_toList]
  have g1 : d'[i]! = d'[i] := getElem!_pos d' i hi
  have g2 : d'[j]! = d'[j] := getElem!_pos d' j hj
  rw [g1, g2] at this
  have hne : (d'[i]).1 ≠ (d'[j]).1 := by
    intro e
    have h5 := (List.getElem_inj (xs := d'.toList.map (·.1)) (i := i) (j := j) (h₀ := by simpa using hi) (h₁ := by simpa using hj) nd').1 (by simpa using e)
    omega
  omega
set_option maxHeartbeats 1000000 in
/-- The tasks' row is sorted. -/
theorem sort_row (B : Nat) (v : Value) (L : List TE) (w : World) (h : w.ownsRow B 55 7 v L.length (L.flatMap encT)) (hn : L.length ≤ 1000) (nd : (L.map (·.1)).Nodup) :
    Calls Try.prog 34 #[v, .func (.func 35) #[] #[]] w fun e w' => e = .returned (.tuple #[]) ∧ ∃ L' : List TE, L'.Perm L ∧ (L'.map (·.1)).Pairwise (· < ·) ∧ w'.ownsRow B 55 7 v L.length (L'.flatMap encT) ∧ Touch w w' (fun k => some k = v.ownBlock) := by
  by_cases h0 : L.length = 0
  · obtain rfl : L = [] := List.length_eq_zero_iff.1 h0
    obtain ⟨va, vc, rfl⟩ := own_form h
    have hcon := AnyF.slices_SortFunc_none sortT va vc (.func (.func 35) #[] #[]) w
    change Calls Try.prog 34 _ _ _ at hcon
    refine hcon.mono ?_
    rintro e w' ⟨rfl, rfl⟩
    exact ⟨rfl, [], List.Perm.refl _, List.Pairwise.nil, h, Touch.refl _ _⟩
  · have h' := h
    rcases h'.2 with ⟨_, h2⟩ | ⟨g, cap, cur, hv, hb, hg, h1, h2, h3, h4⟩
    · exact absurd h2 h0
    · have eg : ∀ args w, (callFunc 35 args).run Try.prog w = .ok (.enter 35 args) w := enters_of Try.func35 (by kernel_rfl) rfl
      have hH : HoldsK encT 7 w g 0 L.toArray := by
        intro j hj
        rw [size_flatK] at hj
        simp only [List.size_toArray] at hj
        have hF : (flatK encT 7 L.toArray)[j]? = (L.flatMap encT)[j]? := by rw [← Array.getElem?_toList, flatK_list]
        constructor
        · rw [cell_of hg, Nat.zero_add, id]
          have h5 : cur[j]? = (L.flatMap encT)[j]? := by
            rw [← h4, List.getElem?_take_of_lt hj, Array.getElem?_toList]
          rw [h5, ← hF]
          have hjs : j < (flatK encT 7 L.toArray).size := by simpa using hj
          rw [getElem!_pos _ j hjs, Array.getElem?_eq_getElem]
        · exact free_of hg _
      have hcon := AnyQ.slices_SortFunc sortT 7 Try.isAgg55 Try.sizeOf55 encT (fun _ => rfl) (fun x v hv => by simp [encT] at hv; rcases hv with rfl | rfl | rfl | rfl | rfl | rfl | rfl <;> rfl) (fun x y => Lib.compareInt x.1 y.1) swoT 35 #[] g 0 cap L.toArray w eg (cmpLays35 g 0 L.toArray.size w) hH (blt hg) (by simp; omega)
      change Calls Try.prog 34 _ _ _ at hcon
      rw [hv]
      refine hcon.mono ?_
      rintro e w' ⟨rfl, d', m, os, hp, hs, rfl⟩
      obtain ⟨hperm, hpw⟩ := sorted_ids hp hs nd
      have hsz : d'.size = L.length := hp.1
      obtain ⟨r1, r2⟩ := sort_world B g cap m v hv w d' os _ h hsz
      refine ⟨rfl, d'.toList, hperm, hpw, by rw [← hv]; exact r1, r2.mono (fun k _ hk => ?_)⟩
      rw [hk]; rfl
end Go.Proofs.Ytkmgbnklfnjfjaa.Ker
