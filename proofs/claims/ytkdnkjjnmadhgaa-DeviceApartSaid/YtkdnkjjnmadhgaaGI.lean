import Derived.Test.YtkdnkjjnmadhgaaFS
import Derived.Shelf.Bytes.SlJoin
import Derived.Test.YtkdnkjjnmadhgaaGD
import Derived.Test.YtkdnkjjnmadhgaaDU
set_option linter.unusedVariables false
set_option linter.unusedSimpArgs false
/-! A plan that comes in, opened to its cells. -/
namespace Go.Proofs.Ytkdnkjjnmadhgaa.Dev
open Go.RowKit Go.Maps
open Go.ChangeShapes Go.WideShapes Go.Deep Go.Joins

/-- A request of a plan that came in. -/
structure PQ where
  pk : Int
  do_ : Int
  a_ : Int
  b_ : Int
  dv : Sl
  data : List Int
def cellsPQ (q : PQ) : List Value := [.int .i64 q.pk, .int .i64 q.do_, .int .i64 q.a_, .int .i64 q.b_, slv q.dv]
def InReqs (w : World) (A : Option Addr) (qs : List PQ) : Prop := 0 < qs.length → ∃ g off, A = some ⟨g, off, none⟩ ∧ g < w.heap.size ∧ ∀ j q, qs[j]? = some q → ∀ i u, (cellsPQ q)[i]? = some u → w.cell? ⟨g, off + j * 5 + i, none⟩ = some u
def InInts (w : World) (A : Option Addr) (ds : List Int) : Prop := 0 < ds.length → ∃ g off, A = some ⟨g, off, none⟩ ∧ g < w.heap.size ∧ ∀ j x, ds[j]? = some x → w.cell? ⟨g, off + j, none⟩ = some (.int .i64 x)
def GoodQ (w : World) (q : PQ) : Prop := Held w.heap.size 5 w q.dv (bytes q.data) ∧ ∀ b ∈ q.data, 0 ≤ b ∧ b < 256
section
variable {H : Type} {enc : TypeId × Value → H} {w : World} {base : Nat} {spare : Nat → Bool} {held : Bool}
set_option maxRecDepth 100000 in
/-- A row of bytes, each a byte. -/
theorem open_row5r {fuel : Nat} {cs : List Value} {x : DataW H × List MemPlace} (h : DataW.trod enc Try.prog w base spare held fuel 39 cs = some x) :
    ∃ (v : Sl) (bs : List Int), cs = [slv v] ∧ Held w.heap.size 5 w v (bytes bs) ∧ ∀ b ∈ bs, 0 ≤ b ∧ b < 256 := by
  have e5 : Try.prog.cellsOf 5 = 1 := by kernel_rfl
  rcases open_slice Try.underlying39 h with ⟨hcs, _⟩ | ⟨a, len, cap, m, n, D, Pl, hcs, _, hl, _, hm, _, hi⟩
  · exact ⟨(none, 0, 0), [], hcs, Held.nil_, fun b hb => by cases hb⟩
  · have hlm : len ≤ m := by rw [hm]; split <;> omega
    have key : ∀ i, i < len → ∃ y : Int, w.cell? (a.add i) = some (.int .u8 y) ∧ 0 ≤ y ∧ y < 256 := by
      intro i hil
      obtain ⟨cs', hc, ht⟩ := hi i (by omega)
      rw [e5] at hc
      obtain ⟨_, hcl, hat⟩ := World.cells?_some hc
      obtain ⟨n0, e0, _, hwf⟩ := DataW.trod_int Try.underlying5 ht
      subst e0
      have h0 := hat 0 (by omega)
      rw [Nat.mul_one] at h0
      refine ⟨n0, by simpa [Addr.add] using h0, ?_⟩
      simp [Lit.wf, IntKind.min, IntKind.max, IntKind.signed, IntKind.bits] at hwf
      omega
    refine ⟨(some a, len, cap), (List.range len).map fun i => if h : i < len then (key i h).choose else 0, hcs, ?_, ?_⟩
    · refine ⟨by simp [bytes], fun u hu => ?_, fun h0 => ?_⟩
      · simp only [bytes, List.map_map, List.mem_map] at hu
        obtain ⟨i, _, rfl⟩ := hu
        rfl
      · have h0 : 0 < len := h0
        obtain ⟨y, hy, _⟩ := key 0 h0
        have hsp : a.spot = none := by
          have := cell_spot hy
          simpa [Addr.add] using this
        obtain ⟨b, o, sp⟩ := a
        have hsp : sp = none := hsp
        subst hsp
        refine ⟨b, o, rfl, .inl ?_, fun j u hu => ?_⟩
        · have := lt_of_cell hy
          rwa [Addr.add_lit] at this
        · have hj : j < len := by
            have := (List.getElem?_eq_some_iff.1 hu).1
            simpa [bytes] using this
          have e2 : (⟨b, o, none⟩ : Addr).add j = ⟨b, o + j, none⟩ := Addr.add_lit _ _ _
          have hs : w.cell? ⟨b, o + j, none⟩ = some (.int .u8 (key j hj).choose) := (congrArg w.cell? e2).symm.trans (key j hj).choose_spec.1
          rw [hs, ← hu]
          simp [bytes, hj]
    · intro b hb
      obtain ⟨i, hi2, rfl⟩ := List.mem_map.1 hb
      have hi3 : i < len := by simpa using hi2
      simp only [hi3, dite_true]
      exact (key i hi3).choose_spec.2
set_option maxRecDepth 100000 in
/-- A request, with its bytes. -/
theorem open_req5 {fuel : Nat} {cs : List Value} {x : DataW H × List MemPlace} (h : DataW.trod enc Try.prog w base spare held fuel 41 cs = some x) (hl : cs.length = 5) :
    ∃ q : PQ, cs = cellsPQ q ∧ GoodQ w q := by
  obtain ⟨ys, k, _, _, _, hlen, hg⟩ := DataW.trod_struct Try.underlying41 h
  match cs, hl with
  | [c0, c1, c2, c3, c4], _ =>
    match ys, hlen with
    | [y0, y1, y2, y3, y4], _ =>
      have e3 : Try.prog.cellsOf 3 = 1 := by kernel_rfl
      have e39 : Try.prog.cellsOf 39 = 1 := by kernel_rfl
      have t0 : DataW.trod enc Try.prog w base spare held k 3 (([c0, c1, c2, c3, c4].drop 0).take (Try.prog.cellsOf 3)) = some y0 := hg 0 _ rfl
      rw [e3] at t0
      have t0 : DataW.trod enc Try.prog w base spare held k 3 [c0] = some y0 := t0
      have t1 : DataW.trod enc Try.prog w base spare held k 3 (([c0, c1, c2, c3, c4].drop 1).take (Try.prog.cellsOf 3)) = some y1 := hg 1 _ rfl
      rw [e3] at t1
      have t1 : DataW.trod enc Try.prog w base spare held k 3 [c1] = some y1 := t1
      have t2 : DataW.trod enc Try.prog w base spare held k 3 (([c0, c1, c2, c3, c4].drop 2).take (Try.prog.cellsOf 3)) = some y2 := hg 2 _ rfl
      rw [e3] at t2
      have t2 : DataW.trod enc Try.prog w base spare held k 3 [c2] = some y2 := t2
      have t3 : DataW.trod enc Try.prog w base spare held k 3 (([c0, c1, c2, c3, c4].drop 3).take (Try.prog.cellsOf 3)) = some y3 := hg 3 _ rfl
      rw [e3] at t3
      have t3 : DataW.trod enc Try.prog w base spare held k 3 [c3] = some y3 := t3
      have t4 : DataW.trod enc Try.prog w base spare held k 39 (([c0, c1, c2, c3, c4].drop 4).take (Try.prog.cellsOf 39)) = some y4 := hg 4 _ rfl
      rw [e39] at t4
      have t4 : DataW.trod enc Try.prog w base spare held k 39 [c4] = some y4 := t4
      obtain ⟨n0, e0, _⟩ := DataW.trod_int Try.underlying3 t0
      obtain ⟨n1, e1, _⟩ := DataW.trod_int Try.underlying3 t1
      obtain ⟨n2, e2, _⟩ := DataW.trod_int Try.underlying3 t2
      obtain ⟨n3, e4, _⟩ := DataW.trod_int Try.underlying3 t3
      simp at e0 e1 e2 e4
      subst e0 e1 e2 e4
      obtain ⟨v, bs, hc, hh, hr⟩ := open_row5r t4
      simp at hc
      subst hc
      exact ⟨⟨_, _, _, _, v, bs⟩, rfl, hh, hr⟩
set_option maxRecDepth 100000 in
/-- A row of numbers. -/
theorem open_row3 {fuel : Nat} {cs : List Value} {x : DataW H × List MemPlace} (h : DataW.trod enc Try.prog w base spare held fuel 24 cs = some x) :
    ∃ (A : Option Addr) (c : Nat) (ds : List Int), cs = [.slice A ds.length c] ∧ InInts w A ds := by
  have e3 : Try.prog.cellsOf 3 = 1 := by kernel_rfl
  rcases open_slice Try.underlying24 h with ⟨hcs, _⟩ | ⟨a, len, cap, m, n, D, Pl, hcs, _, hl, _, hm, _, hi⟩
  · exact ⟨none, 0, [], hcs, fun h => absurd h (by simp)⟩
  · have hlm : len ≤ m := by rw [hm]; split <;> omega
    have key : ∀ i, i < len → ∃ y : Int, w.cell? (a.add i) = some (.int .i64 y) := by
      intro i hil
      obtain ⟨cs', hc, ht⟩ := hi i (by omega)
      rw [e3] at hc
      obtain ⟨_, hcl, hat⟩ := World.cells?_some hc
      obtain ⟨n0, e0, _⟩ := DataW.trod_int Try.underlying3 ht
      subst e0
      have h0 := hat 0 (by omega)
      rw [Nat.mul_one] at h0
      exact ⟨n0, by simpa [Addr.add] using h0⟩
    refine ⟨some a, cap, (List.range len).map fun i => if h : i < len then (key i h).choose else 0, by simpa using hcs, fun h0 => ?_⟩
    have h0 : 0 < len := by simpa using h0
    obtain ⟨y, hy⟩ := key 0 h0
    have hsp : a.spot = none := by
      have := cell_spot hy
      simpa [Addr.add] using this
    obtain ⟨b, o, sp⟩ := a
    have hsp : sp = none := hsp
    subst hsp
    refine ⟨b, o, rfl, ?_, fun j x hu => ?_⟩
    · have := lt_of_cell hy
      rwa [Addr.add_lit] at this
    · have hj : j < len := by
        have := (List.getElem?_eq_some_iff.1 hu).1
        simpa using this
      have e2 : (⟨b, o, none⟩ : Addr).add j = ⟨b, o + j, none⟩ := Addr.add_lit _ _ _
      have hs : w.cell? ⟨b, o + j, none⟩ = some (.int .i64 (key j hj).choose) := (congrArg w.cell? e2).symm.trans (key j hj).choose_spec
      have hm2 : x = (key j hj).choose := by
        simp [hj] at hu
        exact hu.symm
      rw [hs, hm2]
set_option maxRecDepth 100000 in
/-- A row of requests. -/
theorem open_row41 {fuel : Nat} {cs : List Value} {x : DataW H × List MemPlace} (h : DataW.trod enc Try.prog w base spare held fuel 23 cs = some x) :
    ∃ (A : Option Addr) (c : Nat) (qs : List PQ), cs = [.slice A qs.length c] ∧ InReqs w A qs ∧ ∀ q ∈ qs, GoodQ w q := by
  have e41 : Try.prog.cellsOf 41 = 5 := by kernel_rfl
  rcases open_slice Try.underlying23 h with ⟨hcs, _⟩ | ⟨a, len, cap, m, n, D, Pl, hcs, _, hl, _, hm, _, hi⟩
  · exact ⟨none, 0, [], hcs, fun h => absurd h (by simp), fun q hq => by cases hq⟩
  · have hlm : len ≤ m := by rw [hm]; split <;> omega
    have key : ∀ i, i < len → ∃ q : PQ, (∀ k u, (cellsPQ q)[k]? = some u → w.cell? (a.add (i * 5 + k)) = some u) ∧ GoodQ w q := by
      intro i hil
      obtain ⟨cs', hc, ht⟩ := hi i (by omega)
      rw [e41] at hc
      obtain ⟨_, hcl, hat⟩ := World.cells?_some hc
      obtain ⟨q, rfl, hq⟩ := open_req5 ht hcl
      refine ⟨q, fun k u hu => ?_, hq⟩
      have hk := (List.getElem?_eq_some_iff.1 hu).1
      have h0 := hat k (by rw [← hcl]; exact hk)
      have e := (List.getElem?_eq_some_iff.1 hu).2
      rw [add_of_add] at h0
      rw [h0]
      simp [hu]
    refine ⟨some a, cap, (List.range len).map fun i => if h : i < len then (key i h).choose else ⟨0, 0, 0, 0, (none, 0, 0), []⟩, by simpa using hcs, fun h0 => ?_, fun y hy => ?_⟩
    · have h0 : 0 < len := by simpa using h0
      obtain ⟨q, hq, _⟩ := key 0 h0
      have hy := hq 0 _ rfl
      have hsp : a.spot = none := by
        have := cell_spot hy
        simpa [Addr.add] using this
      obtain ⟨b, o, sp⟩ := a
      have hsp : sp = none := hsp
      subst hsp
      refine ⟨b, o, rfl, ?_, fun j q hu i u hiu => ?_⟩
      · have := lt_of_cell hy
        rwa [Addr.add_lit] at this
      · have hj : j < len := by
          have := (List.getElem?_eq_some_iff.1 hu).1
          simpa using this
        have hq2 : q = (key j hj).choose := by
          simp [hj] at hu
          exact hu.symm
        subst hq2
        have := (key j hj).choose_spec.1 i u hiu
        rwa [Addr.add_lit, ← Nat.add_assoc] at this
    · obtain ⟨i, hi2, rfl⟩ := List.mem_map.1 hy
      have hi3 : i < len := by simpa using hi2
      simp only [hi3, dite_true]
      exact (key i hi3).choose_spec.2
set_option maxRecDepth 100000 in
/-- A plan. -/
theorem open_plan {r : Reach} {b0 : Nat} {v : Value} {d : DataW H} {p : List MemPlace} (hv : Value.okWide Try.prog w r b0 26 v) (h : DataW.Trod enc Try.prog w base spare held 26 v d p) :
    ∃ (Ar Ad At : Option Addr) (cr cd ct : Nat) (qs : List PQ) (ds ts : List Int), v = .agg #[.slice Ar qs.length cr, .slice Ad ds.length cd, .slice At ts.length ct] ∧ InReqs w Ar qs ∧ (∀ q ∈ qs, GoodQ w q) ∧ InInts w Ad ds ∧ InInts w At ts := by
  obtain ⟨cs, rfl, hsz⟩ := okWide_struct Try.underlying26 hv
  obtain ⟨l⟩ := cs
  have e26 : Try.prog.cellsOf 26 = 3 := by kernel_rfl
  have e23 : Try.prog.cellsOf 23 = 1 := by kernel_rfl
  have e24 : Try.prog.cellsOf 24 = 1 := by kernel_rfl
  match l, hsz.trans e26 with
  | [c0, c1, c2], _ =>
    obtain ⟨fuel, hf⟩ := h
    obtain ⟨xs, n, _, hx, _, hlen, hg⟩ := DataW.trod_struct Try.underlying26 hf
    match xs, hlen with
    | [y0, y1, y2], _ =>
      have t0 : DataW.trod enc Try.prog w base spare held n 23 (([c0, c1, c2].drop 0).take (Try.prog.cellsOf 23)) = some y0 := hg 0 _ rfl
      rw [e23] at t0
      have t0 : DataW.trod enc Try.prog w base spare held n 23 [c0] = some y0 := t0
      have t1 : DataW.trod enc Try.prog w base spare held n 24 (([c0, c1, c2].drop 1).take (Try.prog.cellsOf 24)) = some y1 := hg 1 _ rfl
      rw [e24] at t1
      have t1 : DataW.trod enc Try.prog w base spare held n 24 [c1] = some y1 := t1
      have t2 : DataW.trod enc Try.prog w base spare held n 24 (([c0, c1, c2].drop 2).take (Try.prog.cellsOf 24)) = some y2 := hg 2 _ rfl
      rw [e24] at t2
      have t2 : DataW.trod enc Try.prog w base spare held n 24 [c2] = some y2 := t2
      obtain ⟨Ar, cr, qs, h0, h1, h2⟩ := open_row41 t0
      obtain ⟨Ad, cd, ds, h3, h4⟩ := open_row3 t1
      obtain ⟨At, ct, ts, h5, h6⟩ := open_row3 t2
      simp at h0 h3 h5
      subst h0 h3 h5
      exact ⟨Ar, Ad, At, cr, cd, ct, qs, ds, ts, rfl, h1, h2, h4, h6⟩
end
end Go.Proofs.Ytkdnkjjnmadhgaa.Dev
/-! long (f11): whether a plan is longer than is looked at. -/
namespace Go.Proofs.Ytkdnkjjnmadhgaa.Dev
open Go.RowKit Go.Maps Go.Lib

set_option maxHeartbeats 2000000 in
set_option maxRecDepth 100000 in
theorem long_any (w : World) (Ar Ad At : Option Addr) (cr cd ct : Nat) (qs : List PQ) (nd nt : Nat) (hR : InReqs w Ar qs) (hQ : ∀ q ∈ qs, GoodQ w q) :
    Calls Try.prog 11 #[.agg #[.slice Ar qs.length cr, .slice Ad nd cd, .slice At nt ct]] w fun e w' => ∃ r : Bool, e = .returned (.bool r) ∧ Below w.heap.size w w' ∧ (r = false → qs.length ≤ 60 ∧ nd ≤ 60 ∧ nt ≤ 60 ∧ ∀ q ∈ qs, q.data.length ≤ 5000) := by
  by_cases h1 : 60 < qs.length
  · have d1 : decide (60 < (qs.length : Int)) = true := by simp; omega
    clear hR hQ h1
    go_enter Try.func11, Try.ntmps11
    go_wp2_with fail
    go_ret
    exact ⟨true, rfl, (Below.refl _ _).alloc (Nat.le_refl _) _, fun h => by cases h⟩
  · have d1 : decide (60 < (qs.length : Int)) = false := by simp; omega
    by_cases h2 : 60 < nd
    · have d2 : decide (60 < (nd : Int)) = true := by simp; omega
      clear hR hQ h1 h2
      go_enter Try.func11, Try.ntmps11
      go_wp2_with fail
      go_ret
      exact ⟨true, rfl, (Below.refl _ _).alloc (Nat.le_refl _) _, fun h => by cases h⟩
    · have d2 : decide (60 < (nd : Int)) = false := by simp; omega
      by_cases h3 : 60 < nt
      · have d3 : decide (60 < (nt : Int)) = true := by simp; omega
        clear hR hQ h1 h2 h3
        go_enter Try.func11, Try.ntmps11
        go_wp2_with fail
        go_ret
        exact ⟨true, rfl, (Below.refl _ _).alloc (Nat.le_refl _) _, fun h => by cases h⟩
      · have d3 : decide (60 < (nt : Int)) = false := by simp; omega
        have HR := Lib.hid hR
        have HQ := Lib.hid hQ
        have H1 := Lib.hid h1
        have H2 := Lib.hid h2
        have H3 := Lib.hid h3
        clear hR hQ h1 h2 h3
        go_enter Try.func11, Try.ntmps11
        go_wp2_with fail
        go_loopw [3] (fun i wr => ∃ j : Nat, j ≤ qs.length ∧ i = .int .i64 j ∧ (∀ k q, k < j → qs[k]? = some q → q.data.length ≤ 5000) ∧ wr = w.alloc (.cells #[.slice Ar qs.length cr, .slice Ad nd cd, .slice At nt ct] 26)) (fun i _ => qs.length - (intOf i).toNat)
        case atStart => exact ⟨0, Nat.zero_le _, rfl, fun k q hk => absurd hk (by omega), rfl⟩
        case round =>
          obtain ⟨j, hj, rfl, hall, rfl⟩ := hrel
          by_cases hlt : j < qs.length
          · as_aux_lemma =>
              have hd : decide ((j : Int) < (qs.length : Int)) = true := by simpa using hlt
              obtain ⟨g, off, rfl, hg, hcell⟩ := HR.out (by omega)
              obtain ⟨q, hq⟩ : ∃ q, qs[j]? = some q := ⟨_, List.getElem?_eq_getElem hlt⟩
              have hdl : q.dv.2.1 = q.data.length := by rw [← (HQ.out q (List.mem_of_getElem? hq)).1.1]; simp [bytes]
              have m4 := Lib.cell?_alloc_some (.cells #[.slice (some ⟨g, off, none⟩) qs.length cr, .slice Ad nd cd, .slice At nt ct] 26) (hcell j q hq 4 _ rfl)
              have HALL := Lib.hid hall
              have HQJ := Lib.hid hq
              have HLT := Lib.hid hlt
              have HDL := Lib.hid hdl
              clear hcell hq hall
              by_cases h5 : 5000 < q.data.length
              · as_aux_lemma =>
                  have d5 : decide (5000 < (q.dv.2.1 : Int)) = true := by simp; omega
                  clear h5 hdl hlt
                  go_wp2_with fail
                  go_ret
                  exact ⟨true, rfl, (Below.refl _ _).alloc (Nat.le_refl _) _, fun h => by cases h⟩
              · as_aux_lemma =>
                  have d5 : decide (5000 < (q.dv.2.1 : Int)) = false := by simp; omega
                  have H5 := Lib.hid h5
                  clear h5 hdl hlt
                  go_wp2_with fail
                  case roundEnd =>
                    have h1 := H1.out
                    have hl := HLT.out
                    have e : wrap64 ((j : Int) + 1) = ((j + 1 : Nat) : Int) := by unfold wrap64; omega
                    refine ⟨⟨j + 1, hl, by rw [e], fun k x hk hx => ?_, trivial⟩, ?_⟩
                    · by_cases hkj : k = j
                      · subst hkj
                        have := HQJ.out.symm.trans hx
                        injection this with this
                        subst this
                        have := H5.out
                        omega
                      · exact HALL.out k x (by omega) hx
                    · rw [e]
                      show qs.length - (j + 1) < qs.length - j
                      omega
          · as_aux_lemma =>
              have hjn : j = qs.length := by omega
              subst hjn
              have hd : decide ((qs.length : Int) < (qs.length : Int)) = false := by simp
              have HALL := Lib.hid hall
              clear hall hlt
              go_wp2_with fail
              go_ret
              refine ⟨false, rfl, (Below.refl _ _).alloc (Nat.le_refl _) _, fun _ => ⟨by have := H1.out; omega, by have := H2.out; omega, by have := H3.out; omega, fun q hq => ?_⟩⟩
              obtain ⟨k, hk, rfl⟩ := List.mem_iff_getElem.1 hq
              exact HALL.out k _ hk (List.getElem?_eq_getElem hk)
end Go.Proofs.Ytkdnkjjnmadhgaa.Dev
/-! bytes.Join of a disk's blocks. -/
namespace Go.Proofs.Ytkdnkjjnmadhgaa.Dev
open Go.RowKit Go.Maps Go.Lib

def joinR_ren : Go.Shelf.Ren := ⟨fun | 14 => 53 | 15 => 66 | n => n, fun | 22 => 39 | 26 => 52 | n => n, fun n => n⟩
theorem joinR : SlLaysJ.n14 Try.prog joinR_ren := {
  mixed := by kernel_rfl,
  f14 := Try.func53.trans (congrArg some (by kernel_rfl)),
  f15 := Try.func66.trans (congrArg some (by kernel_rfl)),
  t0 := Try.underlying0, a0 := Try.isAgg0, z0 := Try.sizeOf0, v0 := Try.zeroValue0,
  t3 := Try.underlying3, a3 := Try.isAgg3, z3 := Try.sizeOf3, v3 := Try.zeroValue3,
  t4 := Try.underlying4, a4 := Try.isAgg4, z4 := Try.sizeOf4, v4 := Try.zeroValue4,
  t9 := Try.underlying9, a9 := Try.isAgg9, z9 := Try.sizeOf9, v9 := Try.zeroValue9,
  t20 := Try.underlying20, a20 := Try.isAgg20, z20 := Try.sizeOf20, v20 := Try.zeroValue20,
  t22 := Try.underlying39, a22 := Try.isAgg39, z22 := Try.sizeOf39, v22 := Try.zeroValue39,
  t26 := Try.underlying52, a26 := Try.isAgg52, z26 := Try.sizeOf52, v26 := Try.zeroValue52,
  t5 := Try.underlying5, z5 := Try.sizeOf5, i5 := by kernel_rfl }

theorem bytes_len (l : List Int) : (bytes l).length = l.length := List.length_map _
/-- Numbers that are bytes. -/
def Byt (bs : List Int) : Prop := ∀ b ∈ bs, 0 ≤ b ∧ b < 256
theorem byte_back {b : Int} (h : 0 ≤ b ∧ b < 256) : ((UInt8.ofNat b.toNat).toNat : Int) = b := by
  have : (UInt8.ofNat b.toNat).toNat = b.toNat := by
    rw [UInt8.toNat_ofNat']
    omega
  omega
theorem Held.bytesAt {B : Nat} {w : World} {v : Sl} {bs : List Int} (h : Held B 5 w v (bytes bs)) (hb : Byt bs) : Lib.HoldsBytes w (slv v) (bytesOf bs) := by
  obtain ⟨A, n, c⟩ := v
  have hn : n = (bytesOf bs).length := by
    have := h.1
    simp [bytes, bytesOf] at this ⊢
    exact this.symm
  refine ⟨A, c, by show Value.slice A n c = _; rw [hn], fun e => ?_, fun a e i x hx => ?_⟩
  · by_cases h0 : 0 < n
    · obtain ⟨g, off, e2, _⟩ := h.2.2 h0
      rw [e] at e2
      cases e2
    · exact List.eq_nil_of_length_eq_zero (by omega)
  · have hl := (List.getElem?_eq_some_iff.1 hx).1
    obtain ⟨g, off, e2, _, hc⟩ := h.2.2 (by show 0 < n; omega)
    have e2 : A = some ⟨g, off, none⟩ := e2
    rw [e2] at e
    injection e with e
    subst e
    rw [Addr.add_lit]
    have hi : i < bs.length := by simpa [bytesOf] using hl
    have h1 := hc i (.int .u8 bs[i]) (by simp [bytes, hi])
    rw [h1]
    have h2 : x = UInt8.ofNat (bs[i]).toNat := by
      simp [bytesOf, hi] at hx
      exact hx.symm
    rw [h2, byte_back (hb _ (List.getElem_mem hi))]
theorem bytesOf_inj {l1 l2 : List Int} (h1 : Byt l1) (h2 : Byt l2) (h : bytesOf l1 = bytesOf l2) : l1 = l2 := by
  have hl : l1.length = l2.length := by
    have := congrArg List.length h
    simpa [bytesOf] using this
  refine List.ext_getElem hl fun i hi1 hi2 => ?_
  have e : UInt8.ofNat (l1[i]).toNat = UInt8.ofNat (l2[i]).toNat := by
    have e1 : (bytesOf l1)[i]? = (bytesOf l2)[i]? := by rw [h]
    simp [bytesOf, hi1, hi2] at e1
    exact e1
  have a := byte_back (h1 _ (List.getElem_mem hi1))
  have b := byte_back (h2 _ (List.getElem_mem hi2))
  rw [e] at a
  omega
theorem bytesOf_flat (ls : List (List Int)) : bytesOf ls.flatten = (ls.map bytesOf).flatten := by
  have e : bytesOf = List.map fun n : Int => UInt8.ofNat n.toNat := rfl
  rw [e, List.map_flatten]
theorem inter_nil : ∀ (ls : List (List UInt8)), List.intercalate [] ls = ls.flatten
  | [] => rfl
  | [x] => by simp [List.intercalate]
  | x :: y :: l => by
    have := inter_nil (y :: l)
    simp [List.intercalate] at this ⊢
    exact this
theorem lens_64 : ∀ (bl : List (List Int)), (∀ x ∈ bl, x.length = 64) → Lib.lens (bl.map bytesOf) = 64 * bl.length
  | [], _ => rfl
  | x :: l, h => by
    have h1 := lens_64 l fun y hy => h y (by simp [hy])
    have h2 := h x (by simp)
    simp only [Lib.lens, List.map_cons, List.sum_cons, bytesOf_length, List.length_cons] at h1 ⊢
    omega
/-- Blocks of 64 bytes, joined. -/
theorem join_blocks (w : World) (B g c : Nat) (sb : List Sl) (bl : List (List Int)) (hc : ∀ j s, sb[j]? = some s → w.cell? ⟨g, j, none⟩ = some (slv s)) (hcap : sb.length ≤ c) (hH : All2 (fun s x => Held B 5 w s (bytes x)) sb bl) (hby : ∀ x ∈ bl, Byt x) (h64 : ∀ x ∈ bl, x.length = 64) (h2 : 2 ≤ bl.length) (hn : bl.length ≤ 10000) :
    Calls Try.prog 53 #[.slice (some ⟨g, 0, none⟩) sb.length c, .slice none 0 0] w fun e w' => ∃ dv, e = .returned (slv dv) ∧ Held w'.heap.size 5 w' dv (bytes bl.flatten) ∧ Below w.heap.size w w' := by
  have hlen := hH.1
  have hP : Lib.PartsAt w ⟨g, 0, none⟩ (sb.map slv) (bl.map bytesOf) := by
    refine ⟨by simp [hlen], fun i v hv => ?_, fun i v l hv hl => ?_⟩
    · rw [List.getElem?_map] at hv
      cases hs : sb[i]? with
      | none => rw [hs] at hv; cases hv
      | some s =>
        rw [hs] at hv
        injection hv with hv
        subst hv
        rw [Addr.add_lit, Nat.zero_add]
        exact hc i s hs
    · rw [List.getElem?_map] at hv hl
      cases hs : sb[i]? with
      | none => rw [hs] at hv; cases hv
      | some s =>
        cases hx : bl[i]? with
        | none => rw [hx] at hl; cases hl
        | some x =>
          rw [hs] at hv
          rw [hx] at hl
          injection hv with hv
          injection hl with hl
          subst hv hl
          exact (hH.2 i s x hs hx).bytesAt (hby x (List.mem_of_getElem? hx))
  have hS : Lib.HoldsBytes w (.slice none 0 0) [] := ⟨none, 0, rfl, fun _ => rfl, fun a e => by cases e⟩
  have hl := lens_64 bl h64
  have h := Any.bytes_Join_many joinR g 0 sb.length c (sb.map slv) (bl.map bytesOf) (.slice none 0 0) [] w (by simp [hlen]) (by omega) hP hcap hS (by omega) (by rw [hl]; simp; omega)
  refine h.mono ?_
  rintro e w' ⟨v', rfl, hf, hb⟩
  obtain ⟨g', cap, zs, rfl, hBg, hlc, hcm, hzl, hzr, hzt, hcell, _⟩ := hf
  have hL : (Lib.join (bl.map bytesOf) []).length = bl.flatten.length := by
    rw [Lib.join, inter_nil, ← bytesOf_flat, bytesOf_length]
  rw [hL] at hzt hlc ⊢
  rw [Lib.join, inter_nil, ← bytesOf_flat] at hzt
  have hbf : Byt bl.flatten := fun b hb => by
    obtain ⟨x, hx, hbx⟩ := List.mem_flatten.1 hb
    exact hby x hx b hbx
  have hz := bytesOf_inj (fun b hb => hzr b (List.mem_of_mem_take hb)) hbf hzt
  refine ⟨(some ⟨g', 0, none⟩, bl.flatten.length, cap), rfl, ⟨bytes_len _, fun u hu => ?_, fun h0 => ⟨g', 0, rfl, .inl ?_, fun j u hu => ?_⟩⟩, hb⟩
  · simp only [bytes, List.mem_map] at hu
    obtain ⟨b, _, rfl⟩ := hu
    rfl
  · have h0 : 0 < bl.flatten.length := h0
    exact lt_of_cell (hcell 0 (by omega))
  · have hj : j < bl.flatten.length := by
      have := (List.getElem?_eq_some_iff.1 hu).1
      rwa [bytes_len] at this
    rw [Nat.zero_add, hcell j (by omega), ← hu]
    have e1 : bl.flatten[j]? = (List.take bl.flatten.length zs)[j]? := by rw [hz]
    have hjz : j < zs.length := by omega
    rw [List.getElem?_take_of_lt hj, List.getElem?_eq_getElem hjz] at e1
    unfold bytes
    rw [List.getElem?_map, e1]
    simp [hjz]
end Go.Proofs.Ytkdnkjjnmadhgaa.Dev
/-! disk.at (f34) and Bus.Disk (f22). -/
namespace Go.Proofs.Ytkdnkjjnmadhgaa.Dev
open Go.RowKit Go.Maps Go.Lib

/-- The blocks of a disk at a time. -/
def nowF (old : List (List Value)) (ws : List (Int × Int × List Value)) (t : Int) : List (List Value) :=
  ws.foldl (fun l x => if x.1 ≤ t then l.set x.2.1.toNat x.2.2 else l) old
theorem nowF_snoc (old : List (List Value)) (ws : List (Int × Int × List Value)) (x : Int × Int × List Value) (t : Int) : nowF old (ws ++ [x]) t = if x.1 ≤ t then (nowF old ws t).set x.2.1.toNat x.2.2 else nowF old ws t := by
  unfold nowF
  rw [List.foldl_append]
  rfl
theorem nowF_len (t : Int) : ∀ (ws : List (Int × Int × List Value)) (old : List (List Value)), (nowF old ws t).length = old.length
  | [], _ => rfl
  | x :: l, old => by
    have h := nowF_len t l (if x.1 ≤ t then old.set x.2.1.toNat x.2.2 else old)
    refine Eq.trans h ?_
    split
    · exact List.length_set
    · rfl
theorem All2.of_map {α β γ : Type} {R : α → β → Prop} {f : γ → β} {l : List α} {m : List γ} (h : All2 R l (m.map f)) : All2 (fun a c => R a (f c)) l m := by
  refine ⟨by simpa using h.1, fun i x y hx hy => h.2 i x (f y) hx (by rw [List.getElem?_map, hy]; rfl)⟩

set_option maxHeartbeats 4000000 in
set_option maxRecDepth 100000 in
theorem disk_at (w : World) (B d : Nat) (m : DM) (p : PD) (h : DRep B w d m p) (t : Int) (n : Nat) (hn : p.old.length = n) (hn2 : 2 ≤ n) (hn3 : n ≤ 10000) (hw : ∀ x ∈ p.writes, 0 ≤ x.2.1 ∧ x.2.1 < (n : Int)) (hwl : p.writes.length ≤ 100000)
    (bl : List (List Int)) (hbl : nowF p.old p.writes t = bl.map bytes) (hby : ∀ x ∈ bl, Byt x) (h64 : ∀ x ∈ bl, x.length = 64) (hB : B ≤ w.heap.size) :
    Calls Try.prog 34 #[ptr d, .int .i64 t] w fun e w' => ∃ dv, e = .returned (slv dv) ∧ Held w'.heap.size 5 w' dv (bytes bl.flatten) ∧ Below w.heap.size w w' := by
  have hso : m.so.length = n := by rw [h.ho.1, hn]
  have hvo : m.vo.2.1 = n := by
    obtain ⟨a, c, e⟩ := own_form h.ro
    have : m.vo.2.1 = m.so.length := by injection e
    rw [this, hso]
  have hvw : m.vw.2.1 = m.sw.length := by
    obtain ⟨a, c, e⟩ := own_form h.rw
    injection e
  have c1 : w.cell? ⟨d, 1, none⟩ = some (.slice m.vo.1 m.vo.2.1 m.vo.2.2) := (cell_of h.cells 1).trans rfl
  have hrd : Reads w w.heap.size 1 m.vo.1 m.vo.2.1 (m.so.map slv) := by
    have h1 := h.ro
    rw [hso, ← hvo] at h1
    exact Reads.of_own h1
  have C48 := Lib.hid (clone_rows w w.heap.size m.vo.1 m.vo.2.1 m.vo.2.2 (m.so.map slv) hrd (Nat.le_refl _) (fun u hu => by
    obtain ⟨x, _, rfl⟩ := List.mem_map.1 hu
    rfl) (by omega))
  have H := Lib.hid h
  have HW := Lib.hid hw
  have HWL := Lib.hid hwl
  have HBL := Lib.hid hbl
  have HBY := Lib.hid hby
  have H64 := Lib.hid h64
  have HN := Lib.hid hn
  have HN2 := Lib.hid hn2
  have HN3 := Lib.hid hn3
  have HSO := Lib.hid hso
  have HVO := Lib.hid hvo
  have HVW := Lib.hid hvw
  have HBB := Lib.hid hB
  clear h hw hwl hbl hby h64 hn hn2 hn3 hso hvo hvw hrd hB
  go_enter Try.func34, Try.ntmps34
  go_wp2_with (go_at_call 48; (with_reducible refine (C48.out).mono ?_); rintro e w1 ⟨v1, rfl, hb1, ho1⟩; rw [HVO.out] at ho1; (obtain ⟨A1, k1, rfl⟩ := own_form ho1); have c2 : w1.cell? ⟨d, 2, none⟩ = some (.slice m.vw.1 m.sw.length m.vw.2.2) := ((hb1.cell (p := ⟨d, 2, none⟩) (blt H.out.cells)).trans (cell_of H.out.cells 2)).trans (by rw [← HVW.out]; rfl); have HB1 := Lib.hid hb1; have HO1 := Lib.hid ho1; clear hb1 ho1)
  clear c1 c2
  go_loopw [18] (fun i wr => ∃ j : Nat, j ≤ m.sw.length ∧ i = .int .i64 j ∧ ∃ sN : List Sl, wr.ownsRow w.heap.size 39 1 (.slice A1 n k1) n (sN.map slv) ∧ All2 (Held B 5 wr) sN (nowF p.old (p.writes.take j) t) ∧ Below w.heap.size w wr) (fun i _ => m.sw.length - (intOf i).toNat)
  case atStart => exact ⟨0, Nat.zero_le _, rfl, m.so, HO1.out, H.out.ho.mono fun _ _ hh => hh.below HB1.out, HB1.out⟩
  case round =>
    obtain ⟨j, hj, rfl, sN, hrow, hall, hbel⟩ := hrel
    have hsl : sN.length = n := by rw [hall.1, nowF_len, HN.out]
    obtain ⟨gA, capA, hvA, hgB, hkc, _, cur, hgA, hcur, _, hcA⟩ := own_cell hrow (by have := HN2.out; omega)
    obtain rfl : A1 = some ⟨gA, 0, none⟩ := by injection hvA
    obtain rfl : k1 = capA := by injection hvA
    by_cases hlt : j < m.sw.length
    · as_aux_lemma =>
        have hd : decide ((j : Int) < (m.sw.length : Int)) = true := by simpa using hlt
        obtain ⟨x, hx⟩ : ∃ x, m.sw[j]? = some x := ⟨_, List.getElem?_eq_getElem hlt⟩
        obtain ⟨y, hy⟩ : ∃ y, p.writes[j]? = some y := ⟨_, List.getElem?_eq_getElem (by rw [← H.out.hw.1]; exact hlt)⟩
        obtain ⟨p1, p2, p3⟩ := H.out.hw.2 j x y hx hy
        obtain ⟨gw, cw, hvw, ⟨curw, hgw⟩, hcw⟩ := row_cells encW_len H.out.rw hx
        have hvw1 : m.vw.1 = some ⟨gw, 0, none⟩ := by injection hvw
        rw [hvw1]
        have hgwl := blt hgw
        have x0 : wr.cell? ⟨gw, j * 3, none⟩ = some (.int .i64 x.1) := (hbel.cell (p := ⟨gw, j * 3, none⟩) hgwl).trans (hcw 0 (by decide))
        have x1 : wr.cell? ⟨gw, j * 3 + 1, none⟩ = some (.int .i64 x.2.1) := (hbel.cell (p := ⟨gw, j * 3 + 1, none⟩) hgwl).trans (hcw 1 (by decide))
        have x2 : wr.cell? ⟨gw, j * 3 + 2, none⟩ = some (.slice x.2.2.1 x.2.2.2.1 x.2.2.2.2) := (hbel.cell (p := ⟨gw, j * 3 + 2, none⟩) hgwl).trans (hcw 2 (by decide))
        have hkr := HW.out y (List.mem_of_getElem? hy)
        rw [← p2] at hkr
        obtain ⟨W5, hW5⟩ : ∃ W5, W5 = wr.alloc (.cells #[.int .i64 x.1, .int .i64 x.2.1, .slice x.2.2.1 x.2.2.2.1 x.2.2.2.2] 116) := ⟨_, rfl⟩
        have hb5 : Below wr.heap.size wr W5 := by rw [hW5]; exact (Below.refl _ _).alloc (Nat.le_refl _) _
        have hsz := hbel.size
        have e64 : wrap64 ((j : Int) + 1) = ((j + 1 : Nat) : Int) := by
          have h1 := HWL.out
          have h2 := H.out.hw.1
          unfold wrap64; omega
        have hstep : nowF p.old (p.writes.take (j + 1)) t = if x.1 ≤ t then (nowF p.old (p.writes.take j) t).set x.2.1.toNat y.2.2 else nowF p.old (p.writes.take j) t := by
          rw [List.take_add_one, hy]
          show nowF p.old (p.writes.take j ++ [y]) t = _
          rw [nowF_snoc, p1, p2]
        have hbel5 : Below w.heap.size w W5 := hbel.trans (hb5.mono hsz)
        have hrow5 := own_keep hrow fun k _ hl => hb5.block k hl
        have hall5 := hall.mono fun _ _ hh => hh.below hb5
        have hp3 := (p3.below hbel5)
        have HE := Lib.hid e64
        have HSTEP := Lib.hid hstep
        have HBEL5 := Lib.hid hbel5
        have HROW5 := Lib.hid hrow5
        have HALL5 := Lib.hid hall5
        have HP3 := Lib.hid hp3
        have HLT := Lib.hid hlt
        have HSL := Lib.hid hsl
        have hg5 := (hb5.block _ (blt hgA)).trans hgA
        have HG5 := Lib.hid hg5
        have HGB := Lib.hid hgB
        have kb : x.2.1.toNat < n := by omega
        have KB := Lib.hid kb
        have KR := Lib.hid hkr
        by_cases hc : x.1 ≤ t
        · as_aux_lemma =>
            have dc : decide (x.1 ≤ t) = true := by simpa using hc
            rw [if_pos hc] at hstep
            have HST := Lib.hid hstep
            obtain ⟨sv, hsv⟩ : ∃ sv, sN[x.2.1.toNat]? = some sv := ⟨_, List.getElem?_eq_getElem (by omega)⟩
            have tc : W5.cell? ⟨gA, x.2.1.toNat, none⟩ = some (.slice sv.1 sv.2.1 sv.2.2) := (hb5.cell (p := ⟨gA, x.2.1.toNat, none⟩) (blt hgA)).trans ((hcA _ kb).trans (by rw [List.getElem?_map, hsv]; rfl))
            have tf : W5.frozen? ⟨gA, x.2.1.toNat, none⟩ = false := free_of hg5 _
            have hk0 := hkr.1
            have hk1 := hkr.2
            rw [hW5] at tc tf
            clear hrow hall hbel hvA hgB hkc hgA hcur hcA hx hy p1 p2 p3 hvw hgw hcw hvw1 hgwl hkr hb5 hsz e64 hstep hbel5 hrow5 hall5 hp3 hsl hg5 hc kb hlt hsv
            go_wp2_with fail
            case roundEnd =>
              rw [← hW5, HE.out]
              have hog : (Value.slice (some ⟨gA, 0, none⟩) n k1).ownBlock = some gA := rfl
              have hset := row_set HROW5.out hog (k := x.2.1.toNat) (by have := KB.out; omega) (slv x.2.2)
              have hkk : ∀ k, k < W5.heap.size → (k < B ∨ ∃ cur, W5.heap[k]? = some (.cells cur 5 (0, 0))) → (W5.setCell ⟨gA, x.2.1.toNat, none⟩ (slv x.2.2)).heap[k]? = W5.heap[k]? := fun k _ ho => Below.heap_setCell W5 _ _ _ fun e => by
                have e : k = gA := e
                subst e
                rcases ho with ho | ⟨cur', ho⟩
                · have := HGB.out; have := HBB.out; omega
                · rw [HG5.out] at ho
                  simp at ho
              refine ⟨⟨j + 1, HLT.out, rfl, sN.set x.2.1.toNat x.2.2, ?_, ?_, ?_⟩, ?_⟩
              · rw [List.map_set]
                exact hset
              · rw [HST.out]
                exact (HALL5.out.mono fun _ _ hh => hh.keep hkk).set (HP3.out.keep hkk) _
              · exact HBEL5.out.setCell HGB.out _
              · show m.sw.length - (j + 1) < m.sw.length - j
                have := HLT.out
                omega
        · as_aux_lemma =>
            have dc : decide (x.1 ≤ t) = false := by simpa using hc
            rw [if_neg hc] at hstep
            have HST := Lib.hid hstep
            clear hrow hall hbel hvA hgB hkc hgA hcur hcA hx hy p1 p2 p3 hvw hgw hcw hvw1 hgwl hkr hb5 hsz e64 hstep hbel5 hrow5 hall5 hp3 hsl hg5 hc kb hlt
            go_wp2_with fail
            case roundEnd =>
              rw [← hW5, HE.out]
              refine ⟨⟨j + 1, HLT.out, rfl, sN, HROW5.out, by rw [HST.out]; exact HALL5.out, HBEL5.out⟩, ?_⟩
              show m.sw.length - (j + 1) < m.sw.length - j
              have := HLT.out
              omega
    · as_aux_lemma =>
        have hjn : j = m.sw.length := by omega
        subst hjn
        have hd : decide ((m.sw.length : Int) < (m.sw.length : Int)) = false := by simp
        rw [H.out.hw.1, List.take_length, HBL.out] at hall
        have hbn : bl.length = n := by have := hall.1; simp at this; omega
        have C53 := Lib.hid (join_blocks wr B gA k1 sN bl (fun i s hs => by
          have hi := (List.getElem?_eq_some_iff.1 hs).1
          rw [hcA i (by omega), List.getElem?_map, hs]; rfl) (by omega) hall.of_map HBY.out H64.out (by have := HN2.out; omega) (by have := HN3.out; omega))
        rw [hsl] at C53
        have HBEL := Lib.hid hbel
        clear hrow hall hbel hvA hgB hkc hgA hcur hcA hsl hbn hlt
        go_wp2_with (go_at_call 53; (with_reducible refine (C53.out).mono ?_); rintro e w6 ⟨dv, rfl, hh, hb6⟩; have HH6 := Lib.hid hh; have HB6 := Lib.hid hb6; clear hh hb6)
        go_ret
        exact ⟨dv, rfl, HH6.out, HBEL.out.trans (HB6.out.mono HBEL.out.size)⟩

theorem is_disk (d : Nat) (w : World) : Sem.run Try.prog (Instr.typeAssert (.iface 81 (ptr d)) 84 81 true) w = .ok (.tuple #[ptr d, .bool true]) w := by kernel_rfl
set_option maxHeartbeats 1000000 in
set_option maxRecDepth 100000 in
/-- Bus.Disk at a disk. -/
theorem disk_bytes (w : World) (B b d : Nat) (m : BM) (h : BRep B w b m) (dev : Int) (hdev : 1 ≤ dev) (hd : m.ds[(dev - 1).toNat]? = some (.iface 81 (ptr d))) (xs : List Value)
    (hat : Calls Try.prog 34 #[ptr d, .int .i64 m.now] w fun e w' => ∃ dv, e = .returned (slv dv) ∧ Held w'.heap.size 5 w' dv xs ∧ Below w.heap.size w w') :
    Calls Try.prog 22 #[ptr b, .int .i64 dev] w fun e w' => ∃ dv, e = .returned (.tuple #[slv dv, .int .i64 0]) ∧ Held w'.heap.size 5 w' dv xs ∧ Below w.heap.size w w' := by
  have C33 := Lib.hid (device_some w B b m h dev hdev _ hd)
  have C34 := Lib.hid hat
  obtain ⟨c0, c1, c2, c3, c4⟩ := h.all
  have ta := fun (w' : World) => is_disk d w'
  clear h hd hdev hat
  go_enter Try.func22, Try.ntmps22
  go_wp2_with (first | (go_at_call 33; (with_reducible refine (C33.out).mono ?_); rintro e w1 ⟨rfl, hw1⟩; (obtain rfl : w = w1 := hw1.symm)) | (go_at_call 34; (with_reducible refine (C34.out).mono ?_); rintro e w2 ⟨dv, rfl, hh, hb2⟩; have HH := Lib.hid hh; have HB2 := Lib.hid hb2; clear hh hb2))
  go_ret2
  exact ⟨dv, rfl, HH.out, HB2.out⟩
end Go.Proofs.Ytkdnkjjnmadhgaa.Dev
