import Derived.Test.YtkmgbnklfnjfjaaKI
/-! A region that draws its order, whose operations and calls may lay new blocks. Contract: taken. -/
namespace Go.Proofs.Ytkmgbnklfnjfjaa.Ker
open Go.RowKit Go.Maps
open Go.ChangeMaps (setBlock)

/-- A world with blocks behind those of w. -/
structure Xt where
  os : Array Obj
  d : Nat
instance : Inhabited Xt := ⟨⟨#[], 0⟩⟩
def ext (w : World) (x : Xt) : World := { w with heap := w.heap ++ x.os, drawn := x.d }
theorem ext_below (w : World) (x : Xt) : Below w.heap.size w (ext w x) :=
  ⟨rfl, rfl, rfl, by simp [ext], fun k hk => by simp [ext, Array.getElem?_append, hk]⟩
theorem below_ext {w w' : World} (h : Below w.heap.size w w') : ∃ x, w' = ext w x := by
  refine ⟨⟨w'.heap.extract w.heap.size w'.heap.size, w'.drawn⟩, ?_⟩
  obtain ⟨h1, h2, h3, h4, h5⟩ := h
  cases w'
  simp only at h1 h2 h3 h4 h5
  subst h1 h2 h3
  simp only [ext, World.mk.injEq, and_true]
  apply Array.ext_getElem?
  intro i
  rw [Array.getElem?_append]
  split
  · exact h5 i (by assumption)
  · rw [Array.getElem?_extract]
    rename_i heap _ _
    by_cases hi : i < heap.size
    · rw [if_pos (by omega)]
      congr 1
      omega
    · rw [if_neg (by omega), Array.getElem?_eq_none (by omega)]
theorem wp_region_ext {P : Program} {id : Nat} {Q : Exit → Act → World → Prop} {a : Act} {w : World} {l : List Oper} (hm : P.follows .mixedOrders = true) (hB : Region.lexB .any l.toArray = true)
    (h : wpQuiet P l.toArray (fun w' => ∃ x, w' = ext w x) (fun a' => ∀ w', (∃ x, w' = ext w x) → Q .normal a' w') l a) : (Code.region id l.toArray true).wp P Q a w :=
  wp_region_quiet (C := fun w' => ∃ x, w' = ext w x) hm hB ⟨⟨#[], w.drawn + 1⟩, by simp [ext]⟩ (by simpa using h)
theorem ext_of {w w' : World} {x : Xt} (h : Below (ext w x).heap.size (ext w x) w') : ∃ y, w' = ext w y := below_ext ((ext_below w x).trans (h.mono (ext_below w x).size))

/-- Whether a task other than one has a priority. -/
def takenA (a : A) (pri but : Int) : Bool := a.tids.any fun i => (a.tk i).pri == pri && i != but

set_option maxHeartbeats 1000000 in
set_option maxRecDepth 100000 in
theorem taken_any (B kb : Nat) (g : G) (a : A) (w : World) (h : KRep B kb g a w) (hn : a.tids.Nodup) (pri but : Int) :
    Calls Try.prog 69 #[ptr kb, .int .i64 pri, .int .i64 but] w fun e w' => e = .returned (.bool (takenA a pri but)) ∧ Below w.heap.size w w' := by
  obtain ⟨o, hrange, hit⟩ := run_range h.tmap 66 71 und66
  obtain ⟨w3, hw3⟩ : ∃ w3, w3 = w.alloc o := ⟨_, rfl⟩
  rw [← hw3] at hrange hit
  have hb3 : Below w.heap.size w w3 := by rw [hw3]; exact (Below.refl _ _).alloc (Nat.le_refl _) _
  have k0 := h.k0
  have IT := Lib.hid hit
  have H := Lib.hid h
  have HN := Lib.hid hn
  clear hw3 hit h hn
  go_enter Try.func69, Try.ntmps69
  go_wp2_with fail
  go_loopw [7, 8] (fun _ _ wr => ∃ left, iterAt wr w.heap.size g.tm (a.tids.map fun i => (i, g.tb i)) left ∧ (left.map (·.1)).Nodup ∧ Below w.heap.size w wr ∧ w.heap.size < wr.heap.size ∧ ∀ i ∈ a.tids, i ∉ left.map (·.1) → ((a.tk i).pri == pri && i != but) = false)
    (fun _ _ wr => leftCount wr g.tm w.heap.size)
  case atStart =>
    refine ⟨_, IT.out, by simpa [Function.comp_def] using HN.out, hb3, IT.out.lt.2.1, ?_⟩
    intro i hi hni
    exact absurd (by simpa [Function.comp_def] using hi) hni
  case round =>
    obtain ⟨left, hit, hnd, hbel, hrs, hall⟩ := hrel
    rcases run_next hit hnd 0 with ⟨rfl, hnext⟩ | ⟨p, hp, w1, hw1, o1, hnext, hit1, hentry⟩
    · have HR := Lib.hid hall
      have HB := Lib.hid hbel
      clear hall hbel hit hnd IT hb3
      go_wp2_with fail
      go_ret
      refine ⟨?_, HB.out⟩
      have : takenA a pri but = false := by
        unfold takenA
        rw [List.any_eq_false]
        intro i hi
        have := HR.out i hi (by simp)
        simp [this]
      rw [this]
      rfl
    · obtain ⟨W, hW⟩ : ∃ W, W = setBlock w1 w.heap.size o1 := ⟨_, rfl⟩
      rw [← hW] at hnext hit1 hentry
      have hT : Touch wr W (fun k => k = w.heap.size) := by
        rw [hW]
        rcases hw1 with rfl | rfl
        · exact Touch.setB _ _ _
        · exact (Touch.drew wr _).trans (Touch.setB _ _ _)
      have hbW : Below w.heap.size w W := hbel.trans (hT.below hbel.size (fun k hk => by omega))
      have hkW := H.out.below hbW
      obtain ⟨i, hi, rfl⟩ : ∃ i ∈ a.tids, p = (i, g.tb i) := by
        obtain ⟨i, hi, he⟩ := List.mem_map.1 (hit.sub p hp)
        exact ⟨i, hi, he.symm⟩
      have t1 := hkW.t1 hi
      have hcount : leftCount W g.tm w.heap.size < leftCount wr g.tm w.heap.size := by
        rw [hit1.count, hit.count]
        exact filter_lt hp
      have HI1 := Lib.hid hit1
      have HBW := Lib.hid hbW
      have HA := Lib.hid hall
      have hszW := hT.size
      have SEEN := Lib.hid (show ∀ j ∈ a.tids, j ∉ (left.filter (fun q => q.1 != i)).map (·.1) → j = i ∨ j ∉ left.map (·.1) by
        intro j _ hj
        by_cases hji : j = i
        · exact .inl hji
        · right
          intro hm
          obtain ⟨q, hq, he⟩ := List.mem_map.1 hm
          exact hj (List.mem_map.2 ⟨q, List.mem_filter.2 ⟨hq, by simp [he, hji]⟩, he⟩))
      have HNF := Lib.hid (List.Nodup.sublist (List.Sublist.map (fun q : Int × Nat => q.1) (List.filter_sublist (p := fun q : Int × Nat => q.1 != i) (l := left))) hnd)
      clear hnd hit hit1 hT hbW hbel hall hw1 hW hkW hp hb3
      cases h1 : (a.tk i).pri == pri with
      | false =>
        have HE := Lib.hid h1
        go_wp2_with fail
        go_roundw
        case rel =>
          refine ⟨_, HI1.out, HNF.out, HBW.out, Nat.lt_of_lt_of_le hrs hszW, ?_⟩
          intro j hj hjl
          rcases SEEN.out j hj hjl with rfl | hj2
          · rw [HE.out]; rfl
          · exact HA.out j hj hj2
        case measure => exact hcount
      | true =>
        have HE := Lib.hid h1
        cases h2 : i != but with
        | false =>
          have HE2 := Lib.hid h2
          go_wp2_with fail
          go_roundw
          case rel =>
            refine ⟨_, HI1.out, HNF.out, HBW.out, Nat.lt_of_lt_of_le hrs hszW, ?_⟩
            intro j hj hjl
            rcases SEEN.out j hj hjl with rfl | hj2
            · rw [HE2.out, Bool.and_false]
            · exact HA.out j hj hj2
          case measure => exact hcount
        | true =>
          have HE2 := Lib.hid h2
          go_wp2_with fail
          go_ret
          refine ⟨?_, HBW.out⟩
          have : takenA a pri but = true := by
            unfold takenA
            rw [List.any_eq_true]
            exact ⟨i, hi, by rw [HE.out, HE2.out]; rfl⟩
          rw [this]
          rfl
end Go.Proofs.Ytkmgbnklfnjfjaa.Ker
