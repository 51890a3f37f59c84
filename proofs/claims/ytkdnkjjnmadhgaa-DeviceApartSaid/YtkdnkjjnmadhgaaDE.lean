import Derived.Test.YtkdnkjjnmadhgaaDD
import Derived.Test.YtkdnkjjnmadhgaaAA
import Derived.Shelf.SlicesG.Cmp
import Derived.Deep.RegionHeld3
import Derived.Deep.DrawnRows
set_option linter.unusedVariables false
set_option linter.unusedSimpArgs false
/-! slices.SortStableFunc at replies. -/
namespace Go.Proofs.Ytkdnkjjnmadhgaa.Dev
open Go.Shelf Go.RowKit Go.Lib Go.Sort Go.Proofs

def orF (a b c : Int) : Int := if a ≠ 0 then a else if b ≠ 0 then b else c
def cmpR (x y : Rp) : Int := orF (compareInt x.at_ y.at_) (compareInt x.dev y.dev) (compareInt x.ord y.ord)
def RLt (x y : Rp) : Prop := x.at_ < y.at_ ∨ (x.at_ = y.at_ ∧ (x.dev < y.dev ∨ (x.dev = y.dev ∧ x.ord < y.ord)))
instance (x y : Rp) : Decidable (RLt x y) := by unfold RLt; infer_instance
theorem cmp_cases (x y : Int) : (x < y ∧ compareInt x y = -1) ∨ (y < x ∧ compareInt x y = 1) ∨ (x = y ∧ compareInt x y = 0) := by
  unfold compareInt
  by_cases h1 : x < y
  · simp [h1]
  · by_cases h2 : y < x
    · simp [h1, h2]
    · right; right
      simp [h1, h2]; omega
theorem cmpR_iff (x y : Rp) : cmpR x y < 0 ↔ RLt x y := by
  unfold cmpR orF RLt
  rcases cmp_cases x.at_ y.at_ with ⟨h1, e1⟩ | ⟨h1, e1⟩ | ⟨h1, e1⟩
  · rw [e1, if_pos (by decide)]
    exact ⟨fun _ => .inl h1, fun _ => by decide⟩
  · rw [e1, if_pos (by decide)]
    constructor <;> intro h <;> omega
  · rw [e1, if_neg (by decide)]
    rcases cmp_cases x.dev y.dev with ⟨h2, e2⟩ | ⟨h2, e2⟩ | ⟨h2, e2⟩
    · rw [e2, if_pos (by decide)]
      exact ⟨fun _ => .inr ⟨h1, .inl h2⟩, fun _ => by decide⟩
    · rw [e2, if_pos (by decide)]
      constructor <;> intro h <;> omega
    · rw [e2, if_neg (by decide)]
      rcases cmp_cases x.ord y.ord with ⟨h3, e3⟩ | ⟨h3, e3⟩ | ⟨h3, e3⟩
      · rw [e3]
        exact ⟨fun _ => .inr ⟨h1, .inr ⟨h2, h3⟩⟩, fun _ => by decide⟩
      · rw [e3]
        constructor <;> intro h <;> omega
      · rw [e3]
        constructor <;> intro h <;> omega
theorem ltR (x y : Rp) : ltOf cmpR x y = true ↔ RLt x y := by
  unfold ltOf
  rw [decide_eq_true_iff]
  exact cmpR_iff x y
theorem nltR (x y : Rp) : ltOf cmpR x y = false ↔ ¬ RLt x y := by
  rw [← ltR]
  cases ltOf cmpR x y <;> simp
theorem swoR : SWO (ltOf cmpR) where
  irrefl x := by
    rw [nltR]
    unfold RLt
    omega
  trans x y z h1 h2 := by
    rw [ltR] at *
    unfold RLt at *
    omega
  ntrans x y z h1 h2 := by
    rw [nltR] at *
    unfold RLt at *
    omega

def insR_ren : Go.Shelf.Ren := ⟨fun | 20 => 70 | n => n, fun | 22 => 78 | 24 => 95 | 25 => 103 | n => n, fun n => n⟩
theorem insR : SlLaysF0.n20 Try.prog insR_ren := {
  mixed := by kernel_rfl,
  f20 := ⟨Try.f70.name, by decide, Try.func70.trans (congrArg some (by kernel_rfl))⟩,
  t0 := Try.underlying0, a0 := Try.isAgg0, z0 := Try.sizeOf0, v0 := Try.zeroValue0,
  t3 := Try.underlying3, a3 := Try.isAgg3, z3 := Try.sizeOf3, v3 := Try.zeroValue3,
  t4 := Try.underlying4, a4 := Try.isAgg4, z4 := Try.sizeOf4, v4 := Try.zeroValue4,
  t22 := Try.underlying78, a22 := Try.isAgg78, z22 := Try.sizeOf78, v22 := Try.zeroValue78,
  t25 := Try.underlying103, a25 := Try.isAgg103, z25 := Try.sizeOf103, v25 := Try.zeroValue103 }
theorem stl : StL Try.prog := {
  mixed := by kernel_rfl, f71 := Try.func71, f72 := Try.func72, f73 := Try.func73, f61 := Try.func61,
  t0 := Try.underlying0, a0 := Try.isAgg0, z0 := Try.sizeOf0, v0 := Try.zeroValue0,
  t3 := Try.underlying3, a3 := Try.isAgg3, z3 := Try.sizeOf3, v3 := Try.zeroValue3,
  t4 := Try.underlying4, a4 := Try.isAgg4, z4 := Try.sizeOf4, v4 := Try.zeroValue4,
  t78 := Try.underlying78, a78 := Try.isAgg78, z78 := Try.sizeOf78, v78 := Try.zeroValue78,
  t103 := Try.underlying103, a103 := Try.isAgg103, z103 := Try.sizeOf103, v103 := Try.zeroValue103,
  t138 := Try.underlying138, a138 := Try.isAgg138, z138 := Try.sizeOf138, v138 := Try.zeroValue138 }

set_option maxRecDepth 100000 in
theorem nan_any (w : World) (a : Int) : Calls Try.prog 62 #[.int .i64 a] w fun e w' => e = .returned (.bool false) ∧ w = w' := by
  have hb : (a != a) = false := by simp
  go_enter Try.func62, Try.ntmps62
  go_wp2
  go_ret
  exact ⟨rfl, rfl⟩
set_option maxRecDepth 100000 in
theorem compare_any (w : World) (a b : Int) : Calls Try.prog 46 #[.int .i64 a, .int .i64 b] w fun e w' => e = .returned (.int .i64 (compareInt a b)) ∧ w = w' := by
  have C1 := fun w' => nan_any w' a
  have C2 := fun w' => nan_any w' b
  rcases cmp_cases a b with ⟨h1, e1⟩ | ⟨h1, e1⟩ | ⟨h1, e1⟩
  all_goals rw [e1]
  · go_enter Try.func46, Try.ntmps46
    go_wp2_with (go_at_call 62; (first | (refine (C1 _).mono ?_) | (refine (C2 _).mono ?_)); rintro e w' ⟨rfl, rfl⟩)
    go_ret
    exact ⟨rfl, rfl⟩
  · have h2 : ¬ a < b := by omega
    go_enter Try.func46, Try.ntmps46
    go_wp2_with (go_at_call 62; (first | (refine (C1 _).mono ?_) | (refine (C2 _).mono ?_)); rintro e w' ⟨rfl, rfl⟩)
    go_ret
    exact ⟨rfl, rfl⟩
  · have h2 : ¬ a < b := by omega
    have h3 : ¬ b < a := by omega
    clear h1
    go_enter Try.func46, Try.ntmps46
    go_wp2_with (go_at_call 62; (first | (refine (C1 _).mono ?_) | (refine (C2 _).mono ?_)); rintro e w' ⟨rfl, rfl⟩)
    go_ret
    exact ⟨rfl, rfl⟩
/-- cmp.Or of three. -/
def orL : List Int → Int
  | [] => 0
  | x :: l => if x ≠ 0 then x else orL l
theorem orL_skip : ∀ (l : List Int) (j : Nat), (∀ i, i < j → (l[i]?).getD 0 = 0) → orL (l.drop j) = orL l
  | [], j, _ => by simp
  | x :: l, 0, _ => rfl
  | x :: l, j + 1, h => by
    have h0 : x = 0 := by simpa using h 0 (by omega)
    rw [List.drop_succ_cons, orL_skip l j (fun i hi => by simpa using h (i + 1) (by omega))]
    subst h0
    simp [orL]
set_option maxRecDepth 100000 in
theorem or_any (w : World) (b : Nat) (l : List Int) (c : Nat) (hl : l.length ≤ 100) (hc : ∀ (j : Nat) x, l[j]? = some x → w.cell? ⟨b, j, none⟩ = some (.int .i64 x)) :
    Calls Try.prog 45 #[.slice (some ⟨b, 0, none⟩) l.length c] w fun e w' => e = .returned (.int .i64 (orL l)) ∧ w = w' := by
  have HC := Lib.hid hc
  clear hc
  go_enter Try.func45, Try.ntmps45
  go_wp2_with fail
  go_loop [8] (fun i => ∃ j : Nat, j ≤ l.length ∧ i = .int .i64 j ∧ ∀ i, i < j → (l[i]?).getD 0 = 0) (fun i => l.length - (intOf i).toNat)
  case atStart => exact ⟨0, Nat.zero_le _, rfl, fun i hi => by omega⟩
  case round =>
    obtain ⟨j, hj, rfl, h0⟩ := hrel
    by_cases hlt : j < l.length
    · have hd : decide ((j : Int) < (l.length : Int)) = true := by simpa using hlt
      obtain ⟨x, hx⟩ : ∃ x, l[j]? = some x := ⟨_, List.getElem?_eq_getElem hlt⟩
      have z := HC.out j x hx
      have hdrop : l.drop j = x :: l.drop (j + 1) := by
        rw [List.getElem?_eq_getElem hlt] at hx
        rw [List.drop_eq_getElem_cons hlt]
        simp at hx
        rw [hx]
      have H0 := Lib.hid h0
      have HX := Lib.hid hx
      have HD := Lib.hid hdrop
      clear h0 hx hdrop
      cases hb : x != 0 with
      | true =>
        go_wp2_with fail
        go_ret
        refine ⟨?_, rfl⟩
        rw [← orL_skip l j H0.out, HD.out, orL, if_pos (by simpa using hb)]
        rfl
      | false =>
        go_wp2_with fail
        go_round
        case rel =>
          refine ⟨j + 1, by omega, by go_num, fun i hi => ?_⟩
          by_cases hij : i = j
          · subst hij
            rw [HX.out]
            simpa using hb
          · exact H0.out i (by omega)
        case measure => simp [intOf]; omega
    · have hjn : j = l.length := by omega
      subst hjn
      have hd : decide ((l.length : Int) < (l.length : Int)) = false := by simp
      have H0 := Lib.hid h0
      clear h0
      go_wp2_with fail
      go_ret
      refine ⟨?_, rfl⟩
      rw [← orL_skip l l.length H0.out, List.drop_length]
      rfl
attribute [local go_sem ↓] Go.wp_at_zero Go.wp_at_succ
theorem new_drew (w : World) (o : Obj) : (w.alloc o).drew.heap[w.heap.size]? = some o := alloc_new w o
set_option maxHeartbeats 1000000 in
set_option maxRecDepth 100000 in
/-- The order of replies. -/
theorem closure44 (x y : Rp) (w : World) : Calls Try.prog 44 #[.agg (encR x).toArray, .agg (encR y).toArray] w fun e w' => e = .returned (.int .i64 (cmpR x y)) ∧ ∃ q os', w' = grow (w.drewN q) os' := by
  obtain ⟨p1, a1, r1, v1, d1, o1⟩ := x
  obtain ⟨p2, a2, r2, v2, d2, o2⟩ := y
  have C1 := Lib.hid (fun w' => compare_any w' a1 a2)
  have C2 := Lib.hid (fun w' => compare_any w' d1 d2)
  have C3 := Lib.hid (fun w' => compare_any w' o1 o2)
  have he : cmpR ⟨p1, a1, r1, v1, d1, o1⟩ ⟨p2, a2, r2, v2, d2, o2⟩ = orL [compareInt a1 a2, compareInt d1 d2, compareInt o1 o2] := by
    unfold cmpR orF orL orL orL orL
    split
    · rfl
    · split
      · rfl
      · split
        · rfl
        · rename_i h; simpa using h
  rw [he]
  clear he
  generalize compareInt a1 a2 = c1 at C1 ⊢
  generalize compareInt d1 d2 = c2 at C2 ⊢
  generalize compareInt o1 o2 = c3 at C3 ⊢
  have C45 := Lib.hid (fun (w' : World) (b : Nat) (h : w'.heap[b]? = some (.cells #[.int .i64 c1, .int .i64 c2, .int .i64 c3] 3 (0, 0))) => show Calls Try.prog 45 #[.slice (some ⟨b, 0, none⟩) 3 3] w' fun e w'' => e = .returned (.int .i64 (orL [c1, c2, c3])) ∧ w' = w'' from or_any w' b [c1, c2, c3] 3 (by simp) (fun j z hz => by
    have : w'.cell? ⟨b, j, none⟩ = (#[Value.int .i64 c1, .int .i64 c2, .int .i64 c3] : Array Value)[j]? := by simp [World.cell?, h]
    rw [this]
    match j, hz with
    | 0, hz => simpa using hz
    | 1, hz => simpa using hz
    | 2, hz => simpa using hz
    | j + 3, hz => simp at hz))
  unfold encR
  go_enter Try.func44, Try.ntmps44
  go_upto_region 1 with (fail)
  obtain ⟨X, hX⟩ : ∃ X, X = (w.alloc (.cells #[.int .i64 p1, .int .i64 a1, .int .i64 r1, slv v1, .int .i64 d1, .int .i64 o1] 95)).alloc (.cells #[.int .i64 p2, .int .i64 a2, .int .i64 r2, slv v2, .int .i64 d2, .int .i64 o2] 95) := ⟨_, rfl⟩
  have HX : Aside (X = grow w (#[.cells #[.int .i64 p1, .int .i64 a1, .int .i64 r1, slv v1, .int .i64 d1, .int .i64 o1] 95] ++ #[.cells #[.int .i64 p2, .int .i64 a2, .int .i64 r2, slv v2, .int .i64 d2, .int .i64 o2] 95])) := by show X = _; rw [hX, alloc_eq_grow, alloc_eq_grow, grow_grow]
  have g1 : X.heap[w.heap.size]? = some (.cells #[.int .i64 p1, .int .i64 a1, .int .i64 r1, slv v1, .int .i64 d1, .int .i64 o1] 95 (0, 0)) := by rw [hX]; exact alloc_old (alloc_new _ _) _
  have g2 : X.heap[w.heap.size + 1]? = some (.cells #[.int .i64 p2, .int .i64 a2, .int .i64 r2, slv v2, .int .i64 d2, .int .i64 o2] 95 (0, 0)) := by
    rw [hX]
    have := alloc_new (w.alloc (.cells #[.int .i64 p1, .int .i64 a1, .int .i64 r1, slv v1, .int .i64 d1, .int .i64 o1] 95)) (.cells #[.int .i64 p2, .int .i64 a2, .int .i64 r2, slv v2, .int .i64 d2, .int .i64 o2] 95)
    rwa [World.size_alloc] at this
  have z1 : X.cell? ⟨w.heap.size, 1, none⟩ = some (.int .i64 a1) := (cell_of g1 1).trans rfl
  have z2 : X.cell? ⟨w.heap.size, 4, none⟩ = some (.int .i64 d1) := (cell_of g1 4).trans rfl
  have z3 : X.cell? ⟨w.heap.size, 5, none⟩ = some (.int .i64 o1) := (cell_of g1 5).trans rfl
  have z4 : X.cell? ⟨w.heap.size + 1, 1, none⟩ = some (.int .i64 a2) := (cell_of g2 1).trans rfl
  have z5 : X.cell? ⟨w.heap.size + 1, 4, none⟩ = some (.int .i64 d2) := (cell_of g2 4).trans rfl
  have z6 : X.cell? ⟨w.heap.size + 1, 5, none⟩ = some (.int .i64 o2) := (cell_of g2 5).trans rfl
  clear g1 g2
  rw [← hX]
  clear hX
  generalize w.heap.size + 1 = b2 at *
  generalize w.heap.size = b1 at *
  go_region_held3 (fun w' => w'.cell? ⟨b1, 1, none⟩ = some (.int .i64 a1) ∧ w'.cell? ⟨b1, 4, none⟩ = some (.int .i64 d1) ∧ w'.cell? ⟨b1, 5, none⟩ = some (.int .i64 o1) ∧ w'.cell? ⟨b2, 1, none⟩ = some (.int .i64 a2) ∧ w'.cell? ⟨b2, 4, none⟩ = some (.int .i64 d2) ∧ w'.cell? ⟨b2, 5, none⟩ = some (.int .i64 o2)) (go_keep)
    (first | (go_at_call 46; (first | (with_reducible refine (C1.out _).mono ?_) | (with_reducible refine (C2.out _).mono ?_) | (with_reducible refine (C3.out _).mono ?_)); rintro e w' ⟨rfl, rfl⟩) | (go_at_call 45; with_reducible refine (C45.out _ _ ?hb).mono ?_; (case hb => exact new_drew X _); rintro e w' ⟨rfl, rfl⟩))
  all_goals
    go_wp2_with fail
    go_ret
    exact ⟨rfl, 1, _, by rw [HX.out, alloc_eq_grow, grow_grow, drew_grow]; rfl⟩
theorem cmpLays44 (blk off size : Nat) (w : World) : CmpLays Try.prog 44 #[] encR 6 cmpR blk off size w :=
  fun _ _ _ _ x y => closure44 x y _
theorem encR_len (x : Rp) : (encR x).length = 6 := rfl
theorem encR_one (x : Rp) : ∀ v ∈ encR x, v.oneCell' = true := by
  intro v hv
  simp [encR] at hv
  rcases hv with rfl | rfl | rfl | rfl | rfl | rfl <;> rfl
theorem insAt (blk off cap n : Nat) (d0 : Array Rp) (w0 : World) (R : RowK encR 6 w0 blk off d0) (hn : d0.size = n) (hsz : n < 1000000000) : InsAt Try.prog (ltOf cmpR) encR 6 44 #[] blk off cap n w0 := by
  intro a b d w hd S hab hb
  have := AnyQ.insertionSortCmpFunc_w insR 6 Try.isAgg95 Try.sizeOf95 encR cmpR 44 #[] blk off cap a b d0 d w0 w (fun args w => enters_of Try.func44 (by decide) rfl args w) (cmpLays44 blk off _ w0) R (by omega) S swoR hab (by omega) (by omega)
  rw [hd] at this
  refine this.mono ?_
  rintro e w' ⟨rfl, h⟩
  have hI := insertionSort_holds swoR d a b hab (by omega)
  exact ⟨rfl, _, ⟨hI.1, hI.2⟩, h⟩
set_option maxRecDepth 100000 in
/-- slices.SortStableFunc at replies. -/
theorem sort_any (blk off cap n : Nat) (d0 : Array Rp) (w0 : World) (hH : HoldsK encR 6 w0 blk off d0) (hb : blk < w0.heap.size) (hn : d0.size = n) (hsz : n < 1000000000) :
    Calls Try.prog 43 #[.slice (some ⟨blk, off, none⟩) n cap, .func (.func 44) #[] #[]] w0 fun e w' => e = .returned (.tuple #[]) ∧ ∃ dk, Mg (ltOf cmpR) 0 n d0 dk ∧ SWK encR 6 w0 blk off dk w' := by
  have R : RowK encR 6 w0 blk off d0 := ⟨encR_len, encR_one, hH, hb⟩
  have C61 := Lib.hid (stable_any stl (fun args w => enters_of Try.func70 (by decide) rfl args w) 6 Try.isAgg95 Try.sizeOf95 encR cmpR swoR 44 #[] blk off cap n d0 w0 (fun args w => enters_of Try.func44 (by decide) rfl args w) (cmpLays44 blk off _ w0) R hn hsz (insAt blk off cap n d0 w0 R hn hsz))
  clear R hH hn
  go_enter Try.func43, Try.ntmps43
  go_wp2_with (go_at_call 61; (with_reducible refine C61.out.mono ?_); rintro e w' ⟨rfl, dk, hM, hS⟩; have HM := Lib.hid hM; have HS := Lib.hid hS; clear hM hS)
  go_end0
  exact ⟨rfl, dk, HM.out, HS.out⟩
end Go.Proofs.Ytkdnkjjnmadhgaa.Dev
