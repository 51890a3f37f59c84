import Derived.Test.YtkmgbnklfnjfjaaUB
import Derived.Test.YtkmgbnklfnjfjaaTS
import Derived.Deep.RegionHeld3
import Derived.Deep.DrawnRows
/-! same (f27): the walk. -/
namespace Go.Proofs.Ytkmgbnklfnjfjaa.Ker
open Go.RowKit Go.Maps
attribute [local go_sem ↓] Go.wp_at_zero Go.wp_at_succ

/-- Tasks tells the tasks in the order of their numbers. -/
theorem tasks_sorted (B kb : Nat) (g : G) (a : A) (w : World) (h : KRep B kb g a w) (gd : Good a) (l : List Int) (hl : l.Perm a.tids) (hs : Srt l) :
    Calls Try.prog 24 #[ptr kb] w fun e w' => ∃ (v : Value) (L : List TE), e = .returned v ∧ Below w.heap.size w w' ∧ L.map (·.1) = l ∧ w'.ownsRow w.heap.size 55 7 v L.length (L.flatMap encT) ∧ ∀ x ∈ L, TkOk w.heap.size a w' x := by
  refine (tasks_any B kb g a w h gd).mono ?_
  rintro e w' ⟨v, L, rfl, hb, hp, hw, hr, hok⟩
  refine ⟨v, L, rfl, hb, ?_, hr, hok⟩
  exact List.Perm.eq_of_pairwise (fun x y _ _ h1 h2 => by omega) hw hs (hp.trans hl.symm)
theorem TkOk.below {B : Nat} {a : A} {w w' : World} {x : TE} (h : TkOk B a w x) (hb : Below w.heap.size w w') : TkOk B a w' x := h.keep (fun b hl _ => hb.block b hl)
theorem eq_same {w : World} {v u : Value} {xs : List Int} (h : intsAt w v xs) (k : intsAt w u xs) (hn : xs.length ≤ 200) : Calls Try.prog 13 #[v, u] w fun e w' => e = .returned (.bool true) ∧ Below w.heap.size w w' := by
  refine (eq_ints w v u xs xs h k (by omega) (by omega)).mono ?_
  rintro e w' ⟨rfl, n, rfl⟩
  exact ⟨by simp, below_drewN (Below.refl _ _) n⟩
theorem ne_self (z : Int) : (z != z) = false := by simp
theorem ne_selfb (z : Bool) : (z != z) = false := by simp

set_option maxHeartbeats 4000000 in
set_option maxRecDepth 100000 in
theorem same_any (B kb xb : Nat) (g : G) (h : RG) (a b : A) (l : List Int) (w : World) (k : KRep B kb g a w) (r : RRep B xb h (W b l) w) (al : Alike a b) (hl : l.Perm a.tids) (hs : Srt l) (gd : Good a) (gb : Good b) (g2 : Good2 b) :
    Calls Try.prog 27 #[ptr kb, ptr xb] w fun e w' => e = .returned (.bool true) ∧ Below w.heap.size w w' := by
  have hlb : l.Perm b.tids := by obtain ⟨_, _, rfl⟩ := al; exact hl
  have gx := good_W gb hlb
  have g2x := good2_W g2 hlb
  have hrun : runF (W b l) = runF a := (run_W gb hlb).trans (alike_run al)
  have hll : l.length ≤ 20 := by rw [hl.length_eq]; exact nodup_bound 20 a.tids gd.tnd (fun x hx => gd.trng x hx)
  obtain ⟨ta, tc, htv⟩ := own_form r.trow
  obtain ⟨pa, pc, hpv⟩ := own_form r.prow
  have hN0 := made_len gx
  have hmade := gx.made
  obtain ⟨N, hN⟩ : ∃ N, N = (pnums (W b l).made).length := ⟨_, rfl⟩
  rw [← hN] at hN0 hpv
  have hN2 : N ≤ 200 := by omega
  have CT := Lib.hid (tasks_sorted B kb g a w k gd l hl hs)
  have K0 := Lib.hid (fun (wr : World) (hb : Below w.heap.size w wr) (n : Nat) (hn : l.length = n) => show wr.cell? ⟨xb, 0, none⟩ = some (.slice ta n tc) by
    have h1 := (r.below hb).k0
    rw [htv] at h1
    rw [← hn]
    exact h1)
  have K1 := Lib.hid (fun (wr : World) (hb : Below w.heap.size w wr) => show wr.cell? ⟨xb, 1, none⟩ = some (.slice pa N pc) by
    have h1 := (r.below hb).k1
    rw [hpv] at h1
    exact h1)
  have C18 := Lib.hid (fun (wr : World) (hb : Below w.heap.size w wr) => run_det B kb g a wr (k.below hb) gd)
  have C28 := Lib.hid (fun (wr : World) (hb : Below w.heap.size w wr) => show Calls Try.prog 28 #[ptr xb] wr fun e w' => e = .returned (.int .i64 (runF a)) ∧ Below wr.heap.size wr w' by
    rw [← hrun]
    exact rrunning B xb h _ wr (r.below hb) gx)
  have C21 := Lib.hid (fun (wr : World) (hb : Below w.heap.size w wr) (i : Int) => kq_any (k.below hb) gd i)
  have C38 := Lib.hid (fun (wr : World) (hb : Below w.heap.size w wr) (i : Int) => show Calls Try.prog 38 #[ptr xb, .int .i64 i] wr fun e w' => ∃ v, e = .returned (.tuple #[v, .int .i64 (qE a i)]) ∧ Below wr.heap.size wr w' ∧ intsAt w' v (qF a i) by
    have h1 := rq_any (r.below hb) gx i
    rw [(qF_W al hl i).1, (qF_W al hl i).2] at h1
    exact h1)
  have C20 := Lib.hid (fun (wr : World) (hb : Below w.heap.size w wr) (i : Int) => kp_any (k.below hb) i)
  have C39 := Lib.hid (fun (wr : World) (hb : Below w.heap.size w wr) (i : Int) => show Calls Try.prog 39 #[ptr xb, .int .i64 i] wr fun e w' => e = .returned (.tuple #[pagg (pF a i).1 (pF a i).2, .int .i64 (pE a i)]) ∧ Below wr.heap.size wr w' by
    have h1 := rp_any (r.below hb) gx g2x i
    rw [(pF_W al i).1, (pF_W al i).2] at h1
    exact h1)
  -- the cells of task n, in either row
  have RC := Lib.hid (fun (wr : World) (hb : Below w.heap.size w wr) (n : Nat) (i : Int) (hi : l[n]? = some i) => show ∃ gs c, h.tv = .slice (some ⟨gs, 0, none⟩) l.length c ∧ (∀ j, j < 7 → wr.cell? ⟨gs, n * 7 + j, none⟩ = (rtc a h.qv i)[j]?) ∧ intsAt wr (h.qv i) (a.q i) by
    obtain ⟨gs, c, h1, _, h2⟩ := row_cells (f := rtc (W b l) h.qv) (sz := 7) (fun _ => rfl) (r.below hb).trow hi
    refine ⟨gs, c, h1, fun j hj => (h2 j hj).trans ?_, ?_⟩
    · obtain ⟨_, _, rfl⟩ := al
      rfl
    · have h3 := (r.below hb).row i (.inl (List.mem_of_getElem? hi))
      obtain ⟨_, _, rfl⟩ := al
      exact ⟨_, h3⟩)
  have HTV := Lib.hid htv
  have GQ := Lib.hid (fun (i : Int) (hi : i ∈ a.tids) => gd.qlen (i := i) (.inl hi))
  have GF := Lib.hid (fun (i : Int) => qF_len gd i)
  have HLM := Lib.hid hl
  have WW := Lib.hid (Below.refl w.heap.size w)
  clear k r al hl hs gd gb g2 hlb gx g2x hrun htv hpv hmade hN hN0
  go_enter Try.func27, Try.ntmps27
  go_wp2_with (first
    | (go_at_call 24; (with_reducible refine CT.out.mono ?_); rintro e w5 ⟨v5, L, rfl, hb5, hL, hr5, hok5⟩; (obtain ⟨va, vc, rfl⟩ := own_form hr5); have k0 := K0.out w5 hb5 L.length (by rw [← hL, List.length_map]); have HB5 := Lib.hid hb5; have HL := Lib.hid hL; have HR := Lib.hid hr5; have HOK := Lib.hid hok5; clear hb5 hL hr5 hok5)
    | (go_at_call 18; (with_reducible refine (C18.out _ HB5.out).mono ?_); rintro e w6 ⟨rfl, hb6⟩; have HB6 := Lib.hid (HB5.out.trans (hb6.mono HB5.out.size)); have D6 := Lib.hid hb6; clear hb6)
    | (go_at_call 28; (with_reducible refine (C28.out _ HB6.out).mono ?_); rintro e w7 ⟨rfl, hb7⟩; have HB7 := Lib.hid (HB6.out.trans (hb7.mono HB6.out.size)); have D7 := Lib.hid (D6.out.trans (hb7.mono D6.out.size)); clear hb7))
  have HR7 := Lib.hid (own_keep HR.out (fun b _ hl => D7.out.block b hl))
  have HOK7 := Lib.hid (fun x hx => (HOK.out x hx).below D7.out)
  have hLl : L.length ≤ 20 := by
    have := HL.out
    rw [← this, List.length_map] at hll
    exact hll
  clear k0 HR HOK
  go_loopw [6] (fun i wr => ∃ n : Nat, n ≤ L.length ∧ i = .int .i64 n ∧ Below w7.heap.size w7 wr) (fun i _ => L.length - (intOf i).toNat)
  case atStart => exact ⟨0, Nat.zero_le _, rfl, Below.refl _ _⟩
  case round =>
    obtain ⟨n, hnL, rfl, hb⟩ := hrel
    have HBW := Lib.hid (HB7.out.trans (hb.mono HB7.out.size))
    by_cases hlt : n < L.length
    · have hdd : decide ((n : Int) < (L.length : Int)) = true := by simpa using hlt
      have hn0 : (0 : Int) ≤ (n : Int) := by omega
      have hn1 : (n : Int) < (L.length : Int) := by omega
      obtain ⟨x, hx⟩ : ∃ x, L[n]? = some x := ⟨_, List.getElem?_eq_getElem hlt⟩
      have hli : l[n]? = some x.1 := by rw [← HL.out, List.getElem?_map, hx]; rfl
      have hmx := HOK7.out x (List.mem_of_getElem? hx)
      obtain ⟨gt, ct, hvt, _, hct⟩ := row_cells (f := encT) (sz := 7) (fun _ => rfl) (own_keep HR7.out (fun b _ hl => hb.block b hl)) hx
      simp only [Value.slice.injEq] at hvt
      obtain ⟨rfl, -, rfl⟩ := hvt
      obtain ⟨gs, c2, hv2, hct2, hq2⟩ := RC.out wr HBW.out n x.1 hli
      have k0 := K0.out wr HBW.out L.length (by rw [← HL.out, List.length_map])
      rw [HTV.out] at hv2
      simp only [Value.slice.injEq] at hv2
      obtain ⟨rfl, -, rfl⟩ := hv2
      obtain ⟨i, t, qa, qn, qc⟩ := x
      obtain ⟨hm, htk, hqr⟩ := hmx
      simp only at hm htk hqr hq2 hct2
      subst htk
      have hk1 : intsAt wr (.slice qa qn qc) (a.q i) := ⟨_, own_keep hqr (fun b _ hl => hb.block b hl)⟩
      have q0 : wr.cell? ⟨gt, n * 7, none⟩ = some (.int .i64 i) := hct 0 (by omega)
      have q1 : wr.cell? ⟨gt, n * 7 + 1, none⟩ = some (.int .i64 (a.tk i).pri) := hct 1 (by omega)
      have q2 : wr.cell? ⟨gt, n * 7 + 2, none⟩ = some (.bool (a.tk i).held) := hct 2 (by omega)
      have q3 : wr.cell? ⟨gt, n * 7 + 3, none⟩ = some (.bool (a.tk i).waiting) := hct 3 (by omega)
      have q4 : wr.cell? ⟨gt, n * 7 + 4, none⟩ = some (.int .i64 (a.tk i).forr) := hct 4 (by omega)
      have q5 : wr.cell? ⟨gt, n * 7 + 5, none⟩ = some (.int .i64 (a.tk i).flags) := hct 5 (by omega)
      have q6 : wr.cell? ⟨gt, n * 7 + 6, none⟩ = some (.slice qa qn qc) := hct 6 (by omega)
      obtain ⟨xa, xc, hxv, _⟩ := hq2.form
      rw [hxv] at hq2
      have s0 : wr.cell? ⟨gs, n * 7, none⟩ = some (.int .i64 i) := hct2 0 (by omega)
      have s1 : wr.cell? ⟨gs, n * 7 + 1, none⟩ = some (.int .i64 (a.tk i).pri) := hct2 1 (by omega)
      have s2 : wr.cell? ⟨gs, n * 7 + 2, none⟩ = some (.bool (a.tk i).held) := hct2 2 (by omega)
      have s3 : wr.cell? ⟨gs, n * 7 + 3, none⟩ = some (.bool (a.tk i).waiting) := hct2 3 (by omega)
      have s4 : wr.cell? ⟨gs, n * 7 + 4, none⟩ = some (.int .i64 (a.tk i).forr) := hct2 4 (by omega)
      have s5 : wr.cell? ⟨gs, n * 7 + 5, none⟩ = some (.int .i64 (a.tk i).flags) := hct2 5 (by omega)
      have s6 : wr.cell? ⟨gs, n * 7 + 6, none⟩ = some (.slice xa (a.q i).length xc) := (hct2 6 (by omega)).trans (congrArg some hxv)
      generalize a.tk i = tt at *
      obtain ⟨t1, t2, t3, t4, t5⟩ := tt
      have HQ1 := Lib.hid hk1
      have HQ2 := Lib.hid hq2
      have HBR := Lib.hid hb
      have HQL := Lib.hid (GQ.out i hm)
      clear hk1 hq2 hb hx hli hct hct2 hqr hxv hm
      simp only at q1 q2 q3 q4 q5 s1 s2 s3 s4 s5
      have C13 := Lib.hid (fun (wx : World) (hb : Below wr.heap.size wr wx) => show Calls Try.prog 13 #[.slice qa qn qc, .slice xa (a.q i).length xc] wx fun e w' => e = .returned (.bool true) ∧ Below wr.heap.size wr w' by
        refine (eq_same (ints_below HQ1.out hb) (ints_below HQ2.out hb) HQL.out).mono ?_
        rintro e w' ⟨rfl, h9⟩
        exact ⟨rfl, hb.trans (h9.mono hb.size)⟩)
      have hi0 := ne_self i
      have hi1 := ne_self t1
      have hi2 := ne_selfb t2
      have hi3 := ne_selfb t3
      have hi4 := ne_self t4
      have hi5 := ne_self t5
      go_wp2_with fail
      go_region_held3 (fun w' => w'.cell? ⟨gt, n * 7, none⟩ = some (.int .i64 i) ∧ w'.cell? ⟨gt, n * 7 + 1, none⟩ = some (.int .i64 t1) ∧ w'.cell? ⟨gt, n * 7 + 2, none⟩ = some (.bool t2) ∧ w'.cell? ⟨gt, n * 7 + 3, none⟩ = some (.bool t3) ∧ w'.cell? ⟨gt, n * 7 + 4, none⟩ = some (.int .i64 t4) ∧ w'.cell? ⟨gt, n * 7 + 5, none⟩ = some (.int .i64 t5) ∧ w'.cell? ⟨gt, n * 7 + 6, none⟩ = some (.slice qa qn qc) ∧
        w'.cell? ⟨xb, 0, none⟩ = some (.slice (some ⟨gs, 0, none⟩) L.length tc) ∧ w'.cell? ⟨gs, n * 7, none⟩ = some (.int .i64 i) ∧ w'.cell? ⟨gs, n * 7 + 1, none⟩ = some (.int .i64 t1) ∧ w'.cell? ⟨gs, n * 7 + 2, none⟩ = some (.bool t2) ∧ w'.cell? ⟨gs, n * 7 + 3, none⟩ = some (.bool t3) ∧ w'.cell? ⟨gs, n * 7 + 4, none⟩ = some (.int .i64 t4) ∧ w'.cell? ⟨gs, n * 7 + 5, none⟩ = some (.int .i64 t5) ∧ w'.cell? ⟨gs, n * 7 + 6, none⟩ = some (.slice xa (a.q i).length xc)) (go_keep) (fail)
      all_goals clear q0 q1 q2 q3 q4 q5 q6 s0 s1 s2 s3 s4 s5 s6 k0
      all_goals (go_wp2_with (go_at_call 13; (with_reducible refine (C13.out _ ?hbb).mono ?_); (case hbb => exact (((Below.refl _ _).alloc (Nat.le_refl _) _).alloc (by simp) _).drew); rintro e w9 ⟨rfl, hb9⟩))
      all_goals
        go_roundw
        (case rel => exact ⟨n + 1, by omega, by go_num, HBR.out.trans (hb9.mono HBR.out.size)⟩)
        (case measure => simp [intOf]; omega)
    · have hnn : n = L.length := by omega
      subst hnn
      have hdd : decide ((L.length : Int) < (L.length : Int)) = false := by simp
      clear hb HR7 HOK7 HB5 HB6 HB7 D6 D7 CT
      go_wp2_with fail
      go_loopw [9] (fun i wq => ∃ m : Nat, m ≤ 28 ∧ i = .int .i64 ((m : Int) - 6) ∧ Below w.heap.size w wq) (fun i _ => (28 - (intOf i + 6)).toNat)
      case atStart => exact ⟨0, by omega, rfl, HBW.out⟩
      case round =>
        obtain ⟨m, hm, rfl, hb2⟩ := hrel
        by_cases hm2 : m < 28
        · have hd2 : decide ((m : Int) - 6 ≤ 21) = true := by simp; omega
          have HB2 := Lib.hid hb2
          have hne := ne_self (qE a ((m : Int) - 6))
          clear hb2
          go_wp2_with (first
            | (go_at_call 21; (with_reducible refine (C21.out _ HB2.out ((m : Int) - 6)).mono ?_); rintro e w3 ⟨v3, rfl, hb3, hi3⟩; have HB3 := Lib.hid (HB2.out.trans (hb3.mono HB2.out.size)); have I3 := Lib.hid hi3; clear hb3 hi3)
            | (go_at_call 38; (with_reducible refine (C38.out _ HB3.out ((m : Int) - 6)).mono ?_); rintro e w4 ⟨v4, rfl, hb4, hi4⟩; have HB4 := Lib.hid (HB3.out.trans (hb4.mono HB3.out.size)); have I34 := Lib.hid (ints_below I3.out hb4); have I4 := Lib.hid hi4; clear hb4 hi4)
            | (go_at_call 13; (with_reducible refine (eq_same I34.out I4.out (GF.out _)).mono ?_); rintro e w5 ⟨rfl, hb5⟩; have HB5 := Lib.hid (HB4.out.trans (hb5.mono HB4.out.size)); clear hb5))
          go_roundw
          case rel => exact ⟨m + 1, by omega, by go_num, HB5.out⟩
          case measure => simp [intOf]; omega
        · have hm3 : m = 28 := by omega
          subst hm3
          rw [show (((28 : Nat) : Int) - 6) = 22 from rfl]
          have k1 := K1.out _ hb2
          have HB2 := Lib.hid hb2
          clear hb2
          go_wp2_with fail
          go_loopw [14] (fun i wq => ∃ m : Nat, m ≤ N + 3 ∧ i = .int .i64 ((m : Int) - 1) ∧ Below w.heap.size w wq) (fun i _ => (N + 3 - (intOf i + 1)).toNat)
          case atStart => exact ⟨0, by omega, rfl, HB2.out⟩
          case round =>
            clear HB2 k1
            obtain ⟨m, hm, rfl, hb3⟩ := hrel
            have k1 := K1.out _ hb3
            by_cases hm4 : m < N + 3
            · have hd3 : decide ((m : Int) - 1 ≤ (N : Int) + 1) = true := by simp; omega
              have hne := ne_self (pE a ((m : Int) - 1))
              have c20 := C20.out _ hb3 ((m : Int) - 1)
              have c39 := fun (wx : World) (hb : Below w.heap.size w wx) => C39.out wx hb ((m : Int) - 1)
              obtain ⟨pf, hpf⟩ : ∃ pf, pf = pF a ((m : Int) - 1) := ⟨_, rfl⟩
              obtain ⟨pe, hpe⟩ : ∃ pe, pe = pE a ((m : Int) - 1) := ⟨_, rfl⟩
              rw [← hpf, ← hpe] at c20 c39
              rw [← hpe] at hne
              clear hpf hpe
              obtain ⟨p0, ⟨p1, p2, p3, p4, p5, p6⟩⟩ := pf
              unfold pagg at c20 c39
              simp only at c20 c39
              have D20 := Lib.hid c20
              have D39 := Lib.hid c39
              have HB3 := Lib.hid hb3
              have h0 := ne_self p0
              have h1 := ne_self p1
              have h2 := ne_self p2
              have h3 := ne_self p3
              have h4 := ne_self p4
              have h5 := ne_self p5
              have h6 := ne_self p6
              clear hb3 c20 c39
              go_wp2_with (first
                | (go_at_call 20; (with_reducible refine D20.out.mono ?_); rintro e w3 ⟨rfl, hb4⟩; have HB4 := Lib.hid (HB3.out.trans (hb4.mono HB3.out.size)); clear hb4)
                | (go_at_call 39; (with_reducible refine (D39.out _ ?hbb).mono ?_); (case hbb => exact HB4.out.alloc HB4.out.size _); rintro e w5 ⟨rfl, hb5⟩; have X5 := Lib.hid ((hb5.block w3.heap.size (by simp)).trans (alloc_new w3 (.cells #[.int .i64 p0, .int .i64 p1, .int .i64 p2, .int .i64 p3, .int .i64 p4, .int .i64 p5, .int .i64 p6] 44))); have lt5 : w3.heap.size < w5.heap.size := blt X5.out; have y0 : w5.cell? ⟨w3.heap.size, 0, none⟩ = some (.int .i64 p0) := (cell_of X5.out 0).trans rfl; have y1 : w5.cell? ⟨w3.heap.size, 1, none⟩ = some (.int .i64 p1) := (cell_of X5.out 1).trans rfl; have y2 : w5.cell? ⟨w3.heap.size, 2, none⟩ = some (.int .i64 p2) := (cell_of X5.out 2).trans rfl; have y3 : w5.cell? ⟨w3.heap.size, 3, none⟩ = some (.int .i64 p3) := (cell_of X5.out 3).trans rfl; have y4 : w5.cell? ⟨w3.heap.size, 4, none⟩ = some (.int .i64 p4) := (cell_of X5.out 4).trans rfl; have y5 : w5.cell? ⟨w3.heap.size, 5, none⟩ = some (.int .i64 p5) := (cell_of X5.out 5).trans rfl; have y6 : w5.cell? ⟨w3.heap.size, 6, none⟩ = some (.int .i64 p6) := (cell_of X5.out 6).trans rfl; have HB5 := Lib.hid (((HB4.out.alloc HB4.out.size _).trans (hb5.mono (Nat.le_trans HB4.out.size (by simp))))); clear hb5))
              go_roundw
              case rel => exact ⟨m + 1, by omega, by go_num, HB5.out.alloc HB5.out.size _⟩
              case measure => simp [intOf]; omega
            · have hm5 : m = N + 3 := by omega
              subst hm5
              have hd3 : decide (((N + 3 : Nat) : Int) - 1 ≤ (N : Int) + 1) = false := by simp; omega
              have HB3 := Lib.hid hb3
              clear hb3
              go_wp2_with fail
              go_ret
              exact ⟨rfl, HB3.out⟩
end Go.Proofs.Ytkmgbnklfnjfjaa.Ker
/-! KernelDoes (f8, by f25): the walk. -/
namespace Go.Proofs.Ytkmgbnklfnjfjaa.Ker
open Go.RowKit Go.Maps

theorem RRep.mono {B B' xb : Nat} {h : RG} {a : A} {w : World} (r : RRep B' xb h a w) (hb : B ≤ B') : RRep B xb h a w :=
  ⟨r.blk, own_base r.trow hb, own_base r.prow hb, own_base r.mrow hb, fun i hi => own_base (r.row i hi) hb, r.sep, Nat.le_trans hb r.low⟩
/-- Both kernels, new. -/
theorem both0 {w w1 : World} (hb : Below w.heap.size w w1) (hk : KRep w.heap.size w.heap.size (G0 w.heap.size) A0 w1) : Both w.heap.size w.heap.size w1.heap.size (G0 w.heap.size) H0 A0 (W A0 []) (w1.alloc (.cells rz 63)) :=
  ⟨hk.keep (fun k hk => Below.heap_alloc w1 _ _ hk), (rep0 w1).mono hb.size, fun b _ hm => by cases hm⟩
/-- Before each call: both kernels behind the first j ones. -/
def DoesRel (w : World) (xb : Nat) (l : List C3) (i : Value) (wr : World) : Prop := ∃ (j : Nat) (g : G) (h : RG) (l' : List Int), j ≤ l.length ∧ i = .int .i64 j ∧ Below w.heap.size w wr ∧ Both w.heap.size w.heap.size xb g h (afterF A0 (l.take j)) (W (afterF A0 (l.take j)) l') wr ∧ l'.Perm (afterF A0 (l.take j)).tids ∧ Srt l'

set_option maxHeartbeats 4000000 in
set_option maxRecDepth 100000 in
theorem played_any (w : World) (v : Value) (l : List C3) (h : callsAt w v l) (hn : l.length ≤ 120) :
    Calls Try.prog 25 #[v, .bool true] w fun e w' => ∃ xb : Nat, e = .returned (.tuple #[ptr w.heap.size, ptr xb, .bool true]) ∧ Below w.heap.size w w' := by
  obtain ⟨va, vc, rfl, hc⟩ := h
  have HC := Lib.hid hc
  have CN := Lib.hid (new_any w)
  clear hc
  go_enter Try.func25, Try.ntmps25
  go_wp2_with (go_at_call 17; (with_reducible refine CN.out.mono ?_); rintro e w1 ⟨rfl, hb, hk⟩; have HB := Lib.hid hb; have HK := Lib.hid hk; clear hb hk)
  have HBO := Lib.hid (both0 HB.out HK.out)
  have HB2 := Lib.hid (HB.out.alloc HB.out.size (.cells rz 63))
  have HS := Lib.hid (show DoesRel w w1.heap.size l (.int .i64 0) (w1.alloc (.cells rz 63)) from ⟨0, _, _, [], Nat.zero_le _, rfl, HB2.out, HBO.out, List.Perm.nil, List.Pairwise.nil⟩)
  go_loopw [9] (fun i wr => DoesRel w w1.heap.size l i wr) (fun i _ => l.length - (intOf i).toNat)
  case atStart => exact HS.out
  case round =>
    clear HS HBO HB2 HB HK CN
    obtain ⟨j, g, h, l', hj, rfl, hb, hbo, hp, hs⟩ := hrel
    have gd : Good (afterF A0 (l.take j)) := good_after good0 _
    have g2 : Good2 (afterF A0 (l.take j)) := good2_after good0 good2_0 _
    have hcl : (afterF A0 (l.take j)).calls = j := by rw [after_calls]; simp [A0]; omega
    by_cases hlt : j < l.length
    · obtain ⟨gb, o, c, cc, cd, rfl, hg, hlc, c0, c1, c2, c3, c4⟩ := HC.out j hlt
      have ZZ := Lib.hid (fun (wx : World) (hbx : Below w.heap.size w wx) => And.intro ((hbx.cell (p := ⟨gb, o + j * 5, none⟩) hg).trans c0) (And.intro ((hbx.cell (p := ⟨gb, o + j * 5 + 1, none⟩) hg).trans c1) (And.intro ((hbx.cell (p := ⟨gb, o + j * 5 + 2, none⟩) hg).trans c2) (And.intro ((hbx.cell (p := ⟨gb, o + j * 5 + 3, none⟩) hg).trans c3) ((hbx.cell (p := ⟨gb, o + j * 5 + 4, none⟩) hg).trans c4)))))
      obtain ⟨z0, z1, z2, z3, z4⟩ := ZZ.out wr hb
      have hdd : decide ((j : Int) < (l.length : Int)) = true := by simpa using hlt
      obtain ⟨a, ha⟩ : ∃ a, a = afterF A0 (l.take j) := ⟨_, rfl⟩
      rw [← ha] at gd g2 hcl hbo hp
      have C19 := Lib.hid (do_det w.heap.size w.heap.size g _ _ hbo.k gd (by omega) c cc cd)
      have C26 := Lib.hid (fun (wx : World) (r : RRep w.heap.size w1.heap.size h (W a l') wx) => rdo_srt w.heap.size w1.heap.size h a l' wx r hp hs gd g2 (by omega) c cc cd)
      obtain ⟨s, hs0⟩ : ∃ s, s = doF a c := ⟨_, rfl⟩
      have gd1 := good_doF gd c
      have g21 := good2_do g2 gd c
      have hT : afterF A0 (l.take (j + 1)) = s.2.2 := by rw [take_next hlc, afterF_append, ← ha, hs0]
      rw [← hs0] at C19 C26 gd1 g21
      obtain ⟨sv, se, a1⟩ := s
      simp only at gd1 g21 hT
      have C27 := Lib.hid (fun (wx : World) (g3 : G) (h3 : RG) (l3 : List Int) (bo : Both w.heap.size w.heap.size w1.heap.size g3 h3 a1 (W a1 l3) wx) (hp3 : l3.Perm a1.tids) (hs3 : Srt l3) => same_any w.heap.size w.heap.size w1.heap.size g3 h3 a1 a1 l3 wx bo.k bo.r (Alike.refl _) hp3 hs3 gd1 gd1 g21)
      have C18 := Lib.hid (fun (wx : World) (g3 : G) (h3 : RG) (l3 : List Int) (bo : Both w.heap.size w.heap.size w1.heap.size g3 h3 a1 (W a1 l3) wx) => run_det _ _ g3 a1 wx bo.k gd1)
      have C28 := Lib.hid (fun (wx : World) (g3 : G) (h3 : RG) (l3 : List Int) (bo : Both w.heap.size w.heap.size w1.heap.size g3 h3 a1 (W a1 l3) wx) (hp3 : l3.Perm a1.tids) => rrun_sim w.heap.size w1.heap.size h3 a1 l3 wx bo.r hp3 gd1)
      have HT := Lib.hid hT
      have HBR := Lib.hid hb
      have HBO := Lib.hid hbo
      have hnv := ne_self sv
      have hne := ne_self se
      have hnr := ne_self (runF a1)
      clear hb hbo hp hs hg c0 c1 c2 c3 c4 hlc gd g2 hcl ha hs0 gd1 g21 hT
      go_wp2_with (first
        | (go_at_call 19; (with_reducible refine C19.out.mono ?_); rintro e w3 ⟨rfl, hb3, g3, k3⟩; (obtain ⟨y0, y1, y2, y3, y4⟩ := ZZ.out w3 (HBR.out.trans hb3.low)); have HB3 := Lib.hid (HBR.out.trans hb3.low); have BO3 := Lib.hid (HBO.out.ker hb3 k3); clear hb3 k3)
        | (go_at_call 26; (with_reducible refine (C26.out _ BO3.out.r).mono ?_); rintro e w4 ⟨rfl, h4, l4, hp4, hs4, hl4⟩; have HB4 := Lib.hid (HB3.out.trans (hl4.low BO3.out.r)); have BO4 := Lib.hid (BO3.out.ref hl4); have HP4 := Lib.hid hp4; have HS4 := Lib.hid hs4; clear hp4 hs4 hl4)
        | (go_at_call 18; (with_reducible refine (C18.out _ _ _ _ BO4.out).mono ?_); rintro e w5 ⟨rfl, hb5⟩; have HB5 := Lib.hid (HB4.out.trans (hb5.mono HB4.out.size)); have BO5 := Lib.hid (BO4.out.below hb5); clear hb5)
        | (go_at_call 28; (with_reducible refine (C28.out _ _ _ _ BO5.out HP4.out).mono ?_); rintro e w6 ⟨rfl, hb6⟩; have HB6 := Lib.hid (HB5.out.trans (hb6.mono HB5.out.size)); have BO6 := Lib.hid (BO5.out.below hb6); clear hb6)
        | (go_at_call 27; (with_reducible refine (C27.out _ _ _ _ BO6.out HP4.out HS4.out).mono ?_); rintro e w7 ⟨rfl, hb7⟩; have HB7 := Lib.hid (HB6.out.trans (hb7.mono HB6.out.size)); have BO7 := Lib.hid (BO6.out.below hb7); clear hb7))
      go_roundw
      case rel => exact ⟨j + 1, g3, h4, l4, by omega, by go_num, HB7.out, by rw [HT.out]; exact BO7.out, by rw [HT.out]; exact HP4.out, HS4.out⟩
      case measure => simp [intOf]; omega
    · have hjn : j = l.length := by omega
      subst hjn
      have hdd : decide ((l.length : Int) < (l.length : Int)) = false := by simp
      have C27 := Lib.hid (same_any w.heap.size w.heap.size w1.heap.size g h _ _ l' wr hbo.k hbo.r (Alike.refl _) hp hs gd gd g2)
      have HBR := Lib.hid hb
      clear hb hbo hp hs gd g2 hcl
      go_wp2_with (go_at_call 27; (with_reducible refine C27.out.mono ?_); rintro e w7 ⟨rfl, hb7⟩; have HB7 := Lib.hid (HBR.out.trans (hb7.mono HBR.out.size)); clear hb7)
      go_ret3
      exact ⟨w1.heap.size, rfl, HB7.out⟩

set_option maxHeartbeats 1000000 in
set_option maxRecDepth 100000 in
theorem does_walk (w : World) (v : Value) (l : List C3) (h : callsAt w v l) (hn : l.length ≤ 120) :
    Calls Try.prog 8 #[v] w fun e w' => e = .returned (.bool true) ∧ Below w.heap.size w w' := by
  have C25 := Lib.hid (played_any w v l h hn)
  obtain ⟨va, vc, rfl, hc⟩ := h
  have hl : decide ((120 : Int) < (l.length : Int)) = false := decide_eq_false (by omega)
  clear hc
  go_enter Try.func8, Try.ntmps8
  go_wp2_with (first | (go_at_call 25; (with_reducible refine C25.out.mono ?_); rintro e w3 ⟨xb, rfl, hb3⟩; have HB3 := Lib.hid hb3; clear hb3) | (go_at_call 16; (with_reducible refine (awake_any _).mono ?_); rintro e w4 ⟨rfl, hb4⟩; have BW := Lib.hid (HB3.out.trans (hb4.mono HB3.out.size)); clear hb4))
  go_ret
  exact ⟨rfl, BW.out⟩
set_option maxHeartbeats 1000000 in
set_option maxRecDepth 100000 in
theorem does_long (w : World) (va : Option Addr) (n vc : Nat) (hn : 120 < n) :
    Calls Try.prog 8 #[.slice va n vc] w fun e w' => e = .returned (.bool true) ∧ Below w.heap.size w w' := by
  have hl : decide ((120 : Int) < (n : Int)) = true := decide_eq_true (by omega)
  go_enter Try.func8, Try.ntmps8
  go_wp2_with fail
  go_ret
  exact ⟨rfl, Below.refl _ _⟩
theorem does_any (w : World) (v : Value) (l : List C3) (h : callsAt w v l) :
    Calls Try.prog 8 #[v] w fun e w' => e = .returned (.bool true) ∧ Below w.heap.size w w' := by
  have h' := h
  obtain ⟨va, vc, rfl, _⟩ := h'
  by_cases hn : 120 < l.length
  · exact does_long w va l.length vc hn
  · exact does_walk w _ l h (by omega)
end Go.Proofs.Ytkmgbnklfnjfjaa.Ker
