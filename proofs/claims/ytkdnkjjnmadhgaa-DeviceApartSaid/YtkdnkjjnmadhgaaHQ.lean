import Derived.Test.YtkdnkjjnmadhgaaHP
import Derived.Test.YtkdnkjjnmadhgaaFS
import Derived.Test.YtkdnkjjnmadhgaaEB
set_option linter.unusedVariables false
set_option linter.unusedSimpArgs false
/-! Whether devices are more than are played; the devices come in. -/
namespace Go.Proofs.Ytkdnkjjnmadhgaa.Dev
open Go.RowKit Go.Maps Go.Lib

/-- A device as it comes in. -/
structure CfGood (w : World) (x : Cf × CfV) : Prop where
  b : Held w.heap.size 3 w x.2.vb (ints x.1.bad)
  t : Held w.heap.size 3 w x.2.vt (ints x.1.times)
  y : Held w.heap.size 5 w x.2.vy (bytes x.1.chars)
  l : Held w.heap.size 3 w x.2.vl (ints x.1.lost)
  byt : Byt x.1.chars
def FewC (c : Cf) : Prop := c.bad.length ≤ 300 ∧ c.times.length ≤ 300 ∧ c.chars.length ≤ 300 ∧ c.lost.length ≤ 300
set_option maxHeartbeats 2000000 in
set_option maxRecDepth 100000 in
theorem heavy_any (w : World) (A : Option Addr) (c : Nat) (l : List (Cf × CfV)) (hl : InCfgs w A l) (hR : ∀ x ∈ l, CfGood w x) :
    Calls Try.prog 10 #[.slice A l.length c] w fun e w' => ∃ r : Bool, e = .returned (.bool r) ∧ Below w.heap.size w w' ∧ (r = false → l.length ≤ 20 ∧ ∀ x ∈ l, FewC x.1) := by
  obtain ⟨n, hnl⟩ : ∃ n, n = l.length := ⟨_, rfl⟩
  rw [← hnl]
  by_cases h20 : 20 < n
  · have hd : decide (20 < (n : Int)) = true := by simp; omega
    clear hl hR hnl h20
    go_enter Try.func10, Try.ntmps10
    go_wp2_with fail
    go_ret
    exact ⟨true, rfl, Below.refl _ _, fun h => by cases h⟩
  · have hd20 : decide (20 < (n : Int)) = false := by simp; omega
    have HL := Lib.hid hl
    have HR := Lib.hid hR
    have HNL := Lib.hid hnl
    have HN : Hid (n ≤ 20) := Lib.hid (by omega)
    clear hl hR hnl h20
    go_enter Try.func10, Try.ntmps10
    go_wp2_with fail
    go_loopw [3] (fun i wr => ∃ j : Nat, j ≤ n ∧ i = .int .i64 j ∧ (∀ k x, k < j → l[k]? = some x → FewC x.1) ∧ wr = w) (fun i _ => n - (intOf i).toNat)
    case atStart => exact ⟨0, Nat.zero_le _, rfl, fun k x hk => absurd hk (by omega), rfl⟩
    case round =>
      obtain ⟨j, hj, rfl, hall, rfl⟩ := hrel
      by_cases hlt : j < n
      · as_aux_lemma =>
          have hd : decide ((j : Int) < (n : Int)) = true := by simpa using hlt
          obtain ⟨g, off, rfl, hg, hcells⟩ := HL.out (by rw [← HNL.out]; omega)
          obtain ⟨x, hx⟩ : ∃ x, l[j]? = some x := ⟨_, List.getElem?_eq_getElem (by rw [← HNL.out]; exact hlt)⟩
          have q2 := hcells j x hx 2 _ rfl
          have q3 := hcells j x hx 3 _ rfl
          have q4 := hcells j x hx 4 _ rfl
          have q5 := hcells j x hx 5 _ rfl
          have hgood := HR.out x (List.mem_of_getElem? hx)
          have h2 := hgood.b.1
          have h3 := hgood.t.1
          have h4 := hgood.y.1
          have h5 := hgood.l.1
          simp only [ints, bytes, List.length_map] at h2 h3 h4 h5
          have HX := Lib.hid hx
          have HALL := Lib.hid hall
          have HXX : Hid (FewC x.1 ↔ x.2.vb.2.1 ≤ 300 ∧ x.2.vt.2.1 ≤ 300 ∧ x.2.vy.2.1 ≤ 300 ∧ x.2.vl.2.1 ≤ 300) := Lib.hid (by unfold FewC; rw [h2, h3, h4, h5])
          clear hx hall h2 h3 h4 h5 hgood hcells
          obtain ⟨xc, ⟨vb1, vb2, vb3⟩, ⟨vt1, vt2, vt3⟩, ⟨vy1, vy2, vy3⟩, ⟨vl1, vl2, vl3⟩⟩ := x
          dsimp only at q2 q3 q4 q5 HXX
          by_cases c1 : 300 < vb2
          · have d1 : decide (300 < (vb2 : Int)) = true := by simp; omega
            clear c1
            go_wp2_with fail
            go_ret
            exact ⟨true, rfl, Below.refl _ _, fun h => by cases h⟩
          have d1 : decide (300 < (vb2 : Int)) = false := by simp; omega
          by_cases c2 : 300 < vt2
          · have d2 : decide (300 < (vt2 : Int)) = true := by simp; omega
            clear c1 c2
            go_wp2_with fail
            go_ret
            exact ⟨true, rfl, Below.refl _ _, fun h => by cases h⟩
          have d2 : decide (300 < (vt2 : Int)) = false := by simp; omega
          by_cases c3 : 300 < vy2
          · have d3 : decide (300 < (vy2 : Int)) = true := by simp; omega
            clear c1 c2 c3
            go_wp2_with fail
            go_ret
            exact ⟨true, rfl, Below.refl _ _, fun h => by cases h⟩
          have d3 : decide (300 < (vy2 : Int)) = false := by simp; omega
          by_cases c4 : 300 < vl2
          · have d4 : decide (300 < (vl2 : Int)) = true := by simp; omega
            clear c1 c2 c3 c4
            go_wp2_with fail
            go_ret
            exact ⟨true, rfl, Below.refl _ _, fun h => by cases h⟩
          have d4 : decide (300 < (vl2 : Int)) = false := by simp; omega
          have HF := Lib.hid (HXX.out.2 ⟨by omega, by omega, by omega, by omega⟩)
          clear c1 c2 c3 c4 HXX
          go_wp2_with fail
          case roundEnd =>
            have e : wrap64 ((j : Int) + 1) = ((j + 1 : Nat) : Int) := by
              have := HN.out
              unfold wrap64; omega
            refine ⟨⟨j + 1, hlt, by first | rw [e] | rfl, fun k x hk hx => ?_, by first | rfl | trivial⟩, ?_⟩
            · by_cases hkj : k = j
              · subst hkj
                have e1 := HX.out.symm.trans hx
                injection e1 with e1
                subst e1
                exact HF.out
              · exact HALL.out k x (by omega) hx
            · first | rw [e] | skip
              show n - (j + 1) < n - j
              omega
      · as_aux_lemma =>
          have hjn : j = n := by omega
          subst hjn
          have hd : decide ((j : Int) < (j : Int)) = false := by simp
          have HALL := Lib.hid hall
          clear hall hlt
          go_wp2_with fail
          go_ret
          refine ⟨false, rfl, Below.refl _ _, fun _ => ⟨HN.out, fun x hx => ?_⟩⟩
          obtain ⟨k, hk, rfl⟩ := List.mem_iff_getElem.1 hx
          exact HALL.out k _ (by rw [HNL.out]; exact hk) (List.getElem?_eq_getElem hk)
open Go.ChangeShapes Go.WideShapes Go.Deep Go.Joins
section
variable {H : Type} {enc : TypeId × Value → H} {w : World} {base : Nat} {spare : Nat → Bool} {held : Bool}
theorem ints_held {A : Option Addr} {c : Nat} {ds : List Int} (h : InInts w A ds) : Held w.heap.size 3 w (A, ds.length, c) (ints ds) :=
  ⟨by simp [ints], fun u hu => by simp only [ints, List.mem_map] at hu; obtain ⟨x, _, rfl⟩ := hu; rfl, fun hn => by
    obtain ⟨g, off, e, hg, hc⟩ := h hn
    refine ⟨g, off, e, .inl hg, fun j u hu => ?_⟩
    simp only [ints, List.getElem?_map] at hu
    cases hd : ds[j]? with
    | none => rw [hd] at hu; cases hu
    | some x => rw [hd] at hu; injection hu with hu; subst hu; exact hc j x hd⟩
set_option maxRecDepth 100000 in
/-- A device's config, as six cells. -/
theorem open_cfg6 {fuel : Nat} {cs : List Value} {x : DataW H × List MemPlace} (h : DataW.trod enc Try.prog w base spare held fuel 54 cs = some x) (hl : cs.length = 6) :
    ∃ x : Cf × CfV, cs = cfgCells x ∧ CfGood w x := by
  obtain ⟨ys, k, _, _, _, hlen, hg⟩ := DataW.trod_struct Try.underlying54 h
  match cs, hl with
  | [c0, c1, c2, c3, c4, c5], _ =>
    match ys, hlen with
    | [y0, y1, y2, y3, y4, y5], _ =>
      have e3 : Try.prog.cellsOf 3 = 1 := by kernel_rfl
      have e24 : Try.prog.cellsOf 24 = 1 := by kernel_rfl
      have e39 : Try.prog.cellsOf 39 = 1 := by kernel_rfl
      have t0 : DataW.trod enc Try.prog w base spare held k 3 (([c0, c1, c2, c3, c4, c5].drop 0).take (Try.prog.cellsOf 3)) = some y0 := hg 0 _ rfl
      rw [e3] at t0
      have t0 : DataW.trod enc Try.prog w base spare held k 3 [c0] = some y0 := t0
      have t1 : DataW.trod enc Try.prog w base spare held k 3 (([c0, c1, c2, c3, c4, c5].drop 1).take (Try.prog.cellsOf 3)) = some y1 := hg 1 _ rfl
      rw [e3] at t1
      have t1 : DataW.trod enc Try.prog w base spare held k 3 [c1] = some y1 := t1
      have t2 : DataW.trod enc Try.prog w base spare held k 24 (([c0, c1, c2, c3, c4, c5].drop 2).take (Try.prog.cellsOf 24)) = some y2 := hg 2 _ rfl
      rw [e24] at t2
      have t2 : DataW.trod enc Try.prog w base spare held k 24 [c2] = some y2 := t2
      have t3 : DataW.trod enc Try.prog w base spare held k 24 (([c0, c1, c2, c3, c4, c5].drop 3).take (Try.prog.cellsOf 24)) = some y3 := hg 3 _ rfl
      rw [e24] at t3
      have t3 : DataW.trod enc Try.prog w base spare held k 24 [c3] = some y3 := t3
      have t4 : DataW.trod enc Try.prog w base spare held k 39 (([c0, c1, c2, c3, c4, c5].drop 4).take (Try.prog.cellsOf 39)) = some y4 := hg 4 _ rfl
      rw [e39] at t4
      have t4 : DataW.trod enc Try.prog w base spare held k 39 [c4] = some y4 := t4
      have t5 : DataW.trod enc Try.prog w base spare held k 24 (([c0, c1, c2, c3, c4, c5].drop 5).take (Try.prog.cellsOf 24)) = some y5 := hg 5 _ rfl
      rw [e24] at t5
      have t5 : DataW.trod enc Try.prog w base spare held k 24 [c5] = some y5 := t5
      obtain ⟨n0, e0, _⟩ := DataW.trod_int Try.underlying3 t0
      obtain ⟨n1, e1, _⟩ := DataW.trod_int Try.underlying3 t1
      obtain ⟨Ab, cb, bad, e2, h2⟩ := open_row3 t2
      obtain ⟨At, ct, times, e3, h3⟩ := open_row3 t3
      obtain ⟨vy, chars, e4, h4, h4b⟩ := open_row5r t4
      obtain ⟨Al, cl, lost, e5, h5⟩ := open_row3 t5
      simp at e0 e1 e2 e3 e4 e5
      subst e0 e1 e2 e3 e4 e5
      exact ⟨(⟨n0, n1, bad, times, chars, lost⟩, ⟨(Ab, bad.length, cb), (At, times.length, ct), vy, (Al, lost.length, cl)⟩), rfl, ints_held h2, ints_held h3, h4, ints_held h5, h4b⟩
set_option maxRecDepth 100000 in
theorem open_cfgs {r : Reach} {b0 : Nat} {v : Value} {d : DataW H} {p : List MemPlace} (hv : Value.okWide Try.prog w r b0 22 v) (h : DataW.Trod enc Try.prog w base spare held 22 v d p) :
    ∃ (A : Option Addr) (c : Nat) (l : List (Cf × CfV)), v = .slice A l.length c ∧ InCfgs w A l ∧ ∀ x ∈ l, CfGood w x := by
  obtain ⟨a0, n0, c0, hv2⟩ := okWide_slice Try.underlying22 hv
  subst hv2
  obtain ⟨fuel, hf⟩ := h
  have e54 : Try.prog.cellsOf 54 = 6 := by kernel_rfl
  rcases open_slice Try.underlying22 hf with ⟨hcs, _⟩ | ⟨a, len, cap, m, n, D, Pl, hcs, _, hl, _, hm, _, hi⟩
  · refine ⟨none, 0, [], by simpa [Value.cells] using hcs, fun h => absurd h (by simp), fun q hq => by cases hq⟩
  · have hlm : len ≤ m := by rw [hm]; split <;> omega
    have key : ∀ i, i < len → ∃ q : Cf × CfV, (∀ k u, (cfgCells q)[k]? = some u → w.cell? (a.add (i * 6 + k)) = some u) ∧ CfGood w q := by
      intro i hil
      obtain ⟨cs', hc, ht⟩ := hi i (by omega)
      rw [e54] at hc
      obtain ⟨_, hcl, hat⟩ := World.cells?_some hc
      obtain ⟨q, rfl, hq⟩ := open_cfg6 ht hcl
      refine ⟨q, fun k u hu => ?_, hq⟩
      have hk := (List.getElem?_eq_some_iff.1 hu).1
      have h0 := hat k (by rw [← hcl]; exact hk)
      have e := (List.getElem?_eq_some_iff.1 hu).2
      rw [add_of_add] at h0
      rw [h0]
      simp [hu]
    refine ⟨some a, cap, (List.range len).map fun i => if h : i < len then (key i h).choose else (⟨0, 0, [], [], [], []⟩, ⟨(none, 0, 0), (none, 0, 0), (none, 0, 0), (none, 0, 0)⟩), by simpa [Value.cells] using hcs, fun h0 => ?_, fun y hy => ?_⟩
    · have h0 : 0 < len := by simpa using h0
      obtain ⟨q, hq, _⟩ := key 0 h0
      have hy := hq 0 _ rfl
      have hsp : a.spot = none := by
        have := cell_spot hy
        simpa [Addr.add] using this
      obtain ⟨b, o, sp⟩ := a
      have hsp : sp = none := hsp
      subst hsp
      refine ⟨b, o, rfl, ?_, fun j q hu i u hiu => ?_⟩
      · have := lt_of_cell hy
        rwa [Addr.add_lit] at this
      · have hj : j < len := by
          have := (List.getElem?_eq_some_iff.1 hu).1
          simpa using this
        have hq2 : q = (key j hj).choose := by
          simp [hj] at hu
          exact hu.symm
        subst hq2
        have := (key j hj).choose_spec.1 i u hiu
        rwa [Addr.add_lit, ← Nat.add_assoc] at this
    · obtain ⟨i, hi2, rfl⟩ := List.mem_map.1 hy
      have hi3 : i < len := by simpa using hi2
      simp only [hi3, dite_true]
      exact (key i hi3).choose_spec.2
end
end Go.Proofs.Ytkdnkjjnmadhgaa.Dev
