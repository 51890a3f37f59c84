import Derived.Test.YtkmgbnklfnjfjaaQD
import Derived.ChangeKeysEq
/-! Play and Log of either kernel, for every row of calls. -/
namespace Go.Proofs.Ytkmgbnklfnjfjaa.Ker
open Go.RowKit Go.Maps

theorem calls_below {w w' : World} {v : Value} {l : List C3} (h : callsAt w v l) (hb : Below w.heap.size w w') : callsAt w' v l := by
  obtain ⟨va, vc, rfl, hc⟩ := h
  refine ⟨va, vc, rfl, fun j hj => ?_⟩
  obtain ⟨gb, o, c, cc, cd, rfl, hg, hlc, c0, c1, c2, c3, c4⟩ := hc j hj
  exact ⟨gb, o, c, cc, cd, rfl, Nat.lt_of_lt_of_le hg hb.size, hlc, (hb.cell (p := ⟨gb, _, none⟩) hg).trans c0, (hb.cell (p := ⟨gb, _, none⟩) hg).trans c1, (hb.cell (p := ⟨gb, _, none⟩) hg).trans c2, (hb.cell (p := ⟨gb, _, none⟩) hg).trans c3, (hb.cell (p := ⟨gb, _, none⟩) hg).trans c4⟩
def PE (l : List C3) : Int := if l.length ≤ 1000 then 0 else 2
def P1 (l : List C3) : List Int := if l.length ≤ 1000 then (playF A0 l).1 else []
def P2 (l : List C3) : List Int := if l.length ≤ 1000 then (playF A0 l).2 else []
def PM (l : List C3) : List (Int × Int × Int × Int) := if l.length ≤ 1000 then (afterF A0 l).moves else []
theorem P1_len (l : List C3) : (P1 l).length ≤ 1000 := by
  unfold P1
  split
  · rw [(playF_len A0 l).1]; assumption
  · simp
theorem P2_len (l : List C3) : (P2 l).length ≤ 1000 := by
  unfold P2
  split
  · rw [(playF_len A0 l).2]; assumption
  · simp
theorem PM_len (l : List C3) : (PM l).length ≤ 1000 := by
  unfold PM
  split
  · have h1 := (good_after good0 l).mcalls
    have h2 := after_calls A0 l
    have h3 : A0.calls = 0 := rfl
    omega
  · simp
def PlayPost (w : World) (l : List C3) : Ending → World → Prop := fun e w' => ∃ v1 v2, e = .returned (.tuple #[v1, v2, .int .i64 (PE l)]) ∧ Below w.heap.size w w' ∧ intsAt w' v1 (P1 l) ∧ intsAt w' v2 (P2 l)
def LogPost (w : World) (l : List C3) : Ending → World → Prop := fun e w' => ∃ u, e = .returned (.tuple #[u, .int .i64 (PE l)]) ∧ Below w.heap.size w w' ∧ w'.ownsRow w.heap.size 31 4 u (PM l).length ((PM l).flatMap mcells)

set_option maxRecDepth 100000 in
theorem play_over (w : World) (va : Option Addr) (n vc : Nat) (hn : 1000 < n) : Calls Try.prog 11 #[.slice va n vc] w fun e w' => e = .returned (.tuple #[.slice none 0 0, .slice none 0 0, .int .i64 2]) ∧ w' = w := by
  have hl : decide ((1000 : Int) < (n : Int)) = true := decide_eq_true (by omega)
  go_enter Try.func11, Try.ntmps11
  go_wp2_with fail
  go_ret3
  exact ⟨rfl, rfl⟩
set_option maxRecDepth 100000 in
theorem rplay_over (w : World) (va : Option Addr) (n vc : Nat) (hn : 1000 < n) : Calls Try.prog 12 #[.slice va n vc] w fun e w' => e = .returned (.tuple #[.slice none 0 0, .slice none 0 0, .int .i64 2]) ∧ w' = w := by
  have hl : decide ((1000 : Int) < (n : Int)) = true := decide_eq_true (by omega)
  go_enter Try.func12, Try.ntmps12
  go_wp2_with fail
  go_ret3
  exact ⟨rfl, rfl⟩
set_option maxRecDepth 100000 in
theorem klog_over (w : World) (va : Option Addr) (n vc : Nat) (hn : 1000 < n) : Calls Try.prog 14 #[.slice va n vc] w fun e w' => e = .returned (.tuple #[.slice none 0 0, .int .i64 2]) ∧ w' = w := by
  have hl : decide ((1000 : Int) < (n : Int)) = true := decide_eq_true (by omega)
  go_enter Try.func14, Try.ntmps14
  go_wp2_with fail
  go_ret2
  exact ⟨rfl, rfl⟩
set_option maxRecDepth 100000 in
theorem rlog_over (w : World) (va : Option Addr) (n vc : Nat) (hn : 1000 < n) : Calls Try.prog 15 #[.slice va n vc] w fun e w' => e = .returned (.tuple #[.slice none 0 0, .int .i64 2]) ∧ w' = w := by
  have hl : decide ((1000 : Int) < (n : Int)) = true := decide_eq_true (by omega)
  go_enter Try.func15, Try.ntmps15
  go_wp2_with fail
  go_ret2
  exact ⟨rfl, rfl⟩
section
variable (w : World) (v : Value) (l : List C3)
theorem post_over (hn : ¬ l.length ≤ 1000) {e : Ending} (he : e = .returned (.tuple #[.slice none 0 0, .slice none 0 0, .int .i64 2])) : PlayPost w l e w := by
  unfold PlayPost PE P1 P2
  rw [if_neg hn, if_neg hn, if_neg hn]
  exact ⟨_, _, he, Below.refl _ _, ⟨0, owns_none⟩, ⟨0, owns_none⟩⟩
theorem log_over (hn : ¬ l.length ≤ 1000) {e : Ending} (he : e = .returned (.tuple #[.slice none 0 0, .int .i64 2])) : LogPost w l e w := by
  unfold LogPost PE PM
  rw [if_neg hn, if_neg hn]
  exact ⟨_, he, Below.refl _ _, owns_none⟩
theorem play_all (h : callsAt w v l) : Calls Try.prog 11 #[v] w (PlayPost w l) := by
  by_cases hn : l.length ≤ 1000
  · unfold PlayPost PE P1 P2
    rw [if_pos hn, if_pos hn, if_pos hn]
    exact play_any w v l h hn
  · obtain ⟨va, vc, rfl, _⟩ := h
    refine (play_over w va l.length vc (by omega)).mono ?_
    rintro e w' ⟨he, rfl⟩
    exact post_over w' l hn he
theorem rplay_all (h : callsAt w v l) : Calls Try.prog 12 #[v] w (PlayPost w l) := by
  by_cases hn : l.length ≤ 1000
  · unfold PlayPost PE P1 P2
    rw [if_pos hn, if_pos hn, if_pos hn]
    exact rplay_any w v l h hn
  · obtain ⟨va, vc, rfl, _⟩ := h
    refine (rplay_over w va l.length vc (by omega)).mono ?_
    rintro e w' ⟨he, rfl⟩
    exact post_over w' l hn he
theorem klog_all (h : callsAt w v l) : Calls Try.prog 14 #[v] w (LogPost w l) := by
  by_cases hn : l.length ≤ 1000
  · unfold LogPost PE PM
    rw [if_pos hn, if_pos hn]
    exact klog_any w v l h hn
  · obtain ⟨va, vc, rfl, _⟩ := h
    refine (klog_over w va l.length vc (by omega)).mono ?_
    rintro e w' ⟨he, rfl⟩
    exact log_over w' l hn he
theorem rlog_all (h : callsAt w v l) : Calls Try.prog 15 #[v] w (LogPost w l) := by
  by_cases hn : l.length ≤ 1000
  · unfold LogPost PE PM
    rw [if_pos hn, if_pos hn]
    exact rlog_any w v l h hn
  · obtain ⟨va, vc, rfl, _⟩ := h
    refine (rlog_over w va l.length vc (by omega)).mono ?_
    rintro e w' ⟨he, rfl⟩
    exact log_over w' l hn he
end
end Go.Proofs.Ytkmgbnklfnjfjaa.Ker
/-! KernelPlays: the walk of f3. -/
namespace Go.Proofs.Ytkmgbnklfnjfjaa.Ker
open Go.RowKit Go.Maps

theorem mcells_len (m : Int × Int × Int × Int) : (mcells m).length = 4 := rfl
theorem row_below {w w' : World} {B e sz n : Nat} {u : Value} {xs : List Value} (h : w.ownsRow B e sz u n xs) (hb : Below w.heap.size w w') : w'.ownsRow B e sz u n xs := own_keep h (fun g _ hl => hb.block g hl)
set_option maxRecDepth 100000 in
theorem plays_long (w : World) (va : Option Addr) (n vc : Nat) (hn : 1010 < n) : Calls Try.prog 3 #[.slice va n vc] w fun e w' => e = .returned (.bool true) ∧ Below w.heap.size w w' := by
  have hl : decide ((1010 : Int) < (n : Int)) = true := decide_eq_true (by omega)
  go_enter Try.func3, Try.ntmps3
  go_wp2_with fail
  go_ret
  exact ⟨rfl, Below.refl _ _⟩
/-- The comparing of two rows of numbers that are one. -/
theorem eq_same (w w' : World) (v u : Value) (xs : List Int) (hb : ∃ n, w' = w.drewN n) (h : intsAt w v xs) (h2 : intsAt w u xs) (hn : xs.length ≤ 1000) : Calls Try.prog 13 #[v, u] w' fun e w'' => e = .returned (.bool true) ∧ ∃ n, w'' = w.drewN n := by
  obtain ⟨n, rfl⟩ := hb
  have hb : Below w.heap.size w (w.drewN n) := below_drewN (Below.refl _ _) n
  refine (eq_ints _ v u xs xs (ints_below h hb) (ints_below h2 hb) (by omega) (by omega)).mono ?_
  rintro e w'' ⟨rfl, m, rfl⟩
  exact ⟨by simp, n + m, by simp [World.drewN, Nat.add_assoc]⟩
set_option maxRecDepth 100000 in
theorem eq31 (a b c d : Int) (w : World) : (Op.equalIn 10000 31 (.agg #[.int .i64 a, .int .i64 b, .int .i64 c, .int .i64 d]) (.agg #[.int .i64 a, .int .i64 b, .int .i64 c, .int .i64 d])).run Try.prog w = .ok true w := by
  obtain ⟨i0, hi, hz0, hz1, hz2⟩ := info_parts info3
  have hcell : Try.prog.cellsOf 3 = 1 := by kernel_rfl
  have p0 : ∀ w : World, (part 3 #[.int .i64 a, .int .i64 b, .int .i64 c, .int .i64 d] (0 * 1)).run Try.prog w = .ok (.int .i64 a) w := fun w => by kernel_rfl
  have p1 : ∀ w : World, (part 3 #[.int .i64 a, .int .i64 b, .int .i64 c, .int .i64 d] (1 * 1)).run Try.prog w = .ok (.int .i64 b) w := fun w => by kernel_rfl
  have p2 : ∀ w : World, (part 3 #[.int .i64 a, .int .i64 b, .int .i64 c, .int .i64 d] (2 * 1)).run Try.prog w = .ok (.int .i64 c) w := fun w => by kernel_rfl
  have p3 : ∀ w : World, (part 3 #[.int .i64 a, .int .i64 b, .int .i64 c, .int .i64 d] (3 * 1)).run Try.prog w = .ok (.int .i64 d) w := fun w => by kernel_rfl
  have hq : ∀ x : Int, (Op.equalIn (9998 + 1) 3 (.int .i64 x) (.int .i64 x)).run Try.prog w = .ok true w := fun x => by
    rw [run_equalIn_int (P := Try.prog) w 9998 3 .i64 .i64 x x Try.underlying3, beq_self_eq_true]
  rw [show (10000 : Nat) = (9998 + 1) + 1 from rfl, Go.run_equalIn_array w (9998 + 1) _ _ Try.underlying31 hi, hcell, show List.range 4 = [0, 1, 2, 3] from rfl]
  simp only [Op.eqItems, Sem.run_bind, p0, p1, p2, p3, hq, Result.andThen_ok, Bool.not_true, Bool.false_eq_true, if_false, Sem.run_pure]
set_option maxHeartbeats 2000000 in
set_option maxRecDepth 100000 in
theorem plays_walk (w : World) (v : Value) (l : List C3) (h : callsAt w v l) (hn : l.length ≤ 1010) :
    Calls Try.prog 3 #[v] w fun e w' => e = .returned (.bool true) ∧ Below w.heap.size w w' := by
  have h' := h
  obtain ⟨va, vc, rfl, _⟩ := h'
  have HC := Lib.hid h
  have hl : decide ((1010 : Int) < (l.length : Int)) = false := decide_eq_false (by omega)
  obtain ⟨er, her⟩ : ∃ er, er = PE l := ⟨_, rfl⟩
  obtain ⟨ms, hms⟩ : ∃ ms, ms = PM l := ⟨_, rfl⟩
  have C11 := Lib.hid (show Calls Try.prog 11 #[.slice va l.length vc] w fun e w' => ∃ v1 v2, e = .returned (.tuple #[v1, v2, .int .i64 er]) ∧ Below w.heap.size w w' ∧ intsAt w' v1 (P1 l) ∧ intsAt w' v2 (P2 l) from by rw [her]; exact play_all w _ l h)
  have C12 := Lib.hid (show ∀ w1, Below w.heap.size w w1 → Calls Try.prog 12 #[.slice va l.length vc] w1 fun e w' => ∃ v1 v2, e = .returned (.tuple #[v1, v2, .int .i64 er]) ∧ Below w1.heap.size w1 w' ∧ intsAt w' v1 (P1 l) ∧ intsAt w' v2 (P2 l) from fun w1 hb => by rw [her]; exact rplay_all w1 _ l (calls_below h hb))
  have C14 := Lib.hid (show ∀ w1, Below w.heap.size w w1 → Calls Try.prog 14 #[.slice va l.length vc] w1 fun e w' => ∃ u, e = .returned (.tuple #[u, .int .i64 er]) ∧ Below w1.heap.size w1 w' ∧ w'.ownsRow w1.heap.size 31 4 u ms.length (ms.flatMap mcells) from fun w1 hb => by rw [her, hms]; exact klog_all w1 _ l (calls_below h hb))
  have C15 := Lib.hid (show ∀ w1, Below w.heap.size w w1 → Calls Try.prog 15 #[.slice va l.length vc] w1 fun e w' => ∃ u, e = .returned (.tuple #[u, .int .i64 er]) ∧ Below w1.heap.size w1 w' ∧ w'.ownsRow w1.heap.size 31 4 u ms.length (ms.flatMap mcells) from fun w1 hb => by rw [her, hms]; exact rlog_all w1 _ l (calls_below h hb))
  have hee : (er != er) = false := by simp
  have hml : ms.length ≤ 1000 := by rw [hms]; exact PM_len l
  have hmm : ((ms.length : Int) != (ms.length : Int)) = false := by simp
  clear h her hms
  go_enter Try.func3, Try.ntmps3
  go_wp2_with (first | (go_at_call 11; (with_reducible refine C11.out.mono ?_); rintro e w1 ⟨v1, v2, rfl, hb1, h1, h2⟩; have B1 := Lib.hid hb1; have H1 := Lib.hid h1; have H2 := Lib.hid h2; clear hb1 h1 h2) | (go_at_call 12; (with_reducible refine (C12.out _ B1.out).mono ?_); rintro e w2 ⟨u1, u2, rfl, hb2, g1, g2⟩; have B2 := Lib.hid (B1.out.trans (hb2.mono B1.out.size)); have E13 := Lib.hid (eq_same w2 w2 v1 u1 _ ⟨0, rfl⟩ (ints_below H1.out hb2) g1 (P1_len l)); have E13b := Lib.hid (fun n => eq_same w2 (w2.drewN n) v2 u2 _ ⟨n, rfl⟩ (ints_below H2.out hb2) g2 (P2_len l)); clear hb2 g1 g2) | (go_at_call 13; (first | (with_reducible refine E13.out.mono ?_) | (with_reducible refine (E13b.out _).mono ?_)); rintro e w3 ⟨rfl, n3, rfl⟩) | (go_at_call 14; (with_reducible refine (C14.out _ (below_drewN B2.out _)).mono ?_); rintro e w4 ⟨a4, rfl, hb4, h4⟩; (obtain ⟨p4, c4, rfl⟩ := own_form h4); have B4 := Lib.hid ((below_drewN B2.out _).trans (hb4.mono (below_drewN B2.out _).size)); have H4 := Lib.hid h4; clear hb4 h4) | (go_at_call 15; (with_reducible refine (C15.out _ B4.out).mono ?_); rintro e w5 ⟨a5, rfl, hb5, h5⟩; (obtain ⟨p5, c5, rfl⟩ := own_form h5); have B5 := Lib.hid (B4.out.trans (hb5.mono B4.out.size)); have H5 := Lib.hid h5; have H45 := Lib.hid (row_below H4.out hb5); clear hb5 h5))
  go_loopw [13] (fun i wr => ∃ j : Nat, j ≤ ms.length ∧ i = .int .i64 j ∧ ∃ n, wr = w5.drewN n) (fun i _ => ms.length - (intOf i).toNat)
  case atStart => exact ⟨0, Nat.zero_le _, rfl, 0, rfl⟩
  case round =>
    obtain ⟨j, hj, rfl, n, rfl⟩ := hrel
    by_cases hlt : j < ms.length
    · have hdd : decide ((j : Int) < (ms.length : Int)) = true := by simpa using hlt
      obtain ⟨m, hm⟩ : ∃ m, ms[j]? = some m := ⟨_, List.getElem?_eq_getElem hlt⟩
      obtain ⟨ga, ca, hva, _, hca⟩ := row_cells mcells_len H45.out hm
      obtain ⟨gb, cb, hvb, _, hcb⟩ := row_cells mcells_len H5.out hm
      simp only [Value.slice.injEq] at hva hvb
      obtain ⟨rfl, _, rfl⟩ := hva
      obtain ⟨rfl, _, rfl⟩ := hvb
      have x0 : w5.cell? ⟨ga, j * 4, none⟩ = some (.int .i64 m.1) := hca 0 (by omega)
      have x1 : w5.cell? ⟨ga, j * 4 + 1, none⟩ = some (.int .i64 m.2.1) := hca 1 (by omega)
      have x2 : w5.cell? ⟨ga, j * 4 + 2, none⟩ = some (.int .i64 m.2.2.1) := hca 2 (by omega)
      have x3 : w5.cell? ⟨ga, j * 4 + 3, none⟩ = some (.int .i64 m.2.2.2) := hca 3 (by omega)
      have y0 : w5.cell? ⟨gb, j * 4, none⟩ = some (.int .i64 m.1) := hcb 0 (by omega)
      have y1 : w5.cell? ⟨gb, j * 4 + 1, none⟩ = some (.int .i64 m.2.1) := hcb 1 (by omega)
      have y2 : w5.cell? ⟨gb, j * 4 + 2, none⟩ = some (.int .i64 m.2.2.1) := hcb 2 (by omega)
      have y3 : w5.cell? ⟨gb, j * 4 + 3, none⟩ = some (.int .i64 m.2.2.2) := hcb 3 (by omega)
      clear hca hcb hm
      go_wp2_with fail
      refine wp_region_quiet_lit (by kernel_rfl) (by kernel_rfl) ?_
      iterate 8 (go_big_quiet_step (fail))
      go_big_quiet_want
      go_big_quiet_op
      apply Exists.intro
      refine ⟨fun _ => ?_, ?_⟩
      · rw [eq31]
        exact ⟨rfl, (rfl : Value.bool false = _)⟩
      go_big_quiet_on
      refine wpQuiet_nil ?_
      intro _ hw'
      obtain ⟨nq, hw''⟩ := hw'
      subst hw''
      go_wp2_with fail
      go_roundw
      case rel => exact ⟨j + 1, by omega, by go_num, _, rfl⟩
      case measure => simp [intOf]; omega
    · have hjn : j = ms.length := by omega
      subst hjn
      have hdd : decide ((ms.length : Int) < (ms.length : Int)) = false := by simp
      go_wp2_with (go_at_call 16; (refine (awake_any _).mono ?_); rintro e w6 ⟨rfl, hb6⟩; have B6 := Lib.hid ((below_drewN B5.out n).trans (hb6.mono (below_drewN B5.out n).size)); clear hb6)
      go_ret
      exact ⟨rfl, B6.out⟩
theorem plays_any (w : World) (v : Value) (l : List C3) (h : callsAt w v l) :
    Calls Try.prog 3 #[v] w fun e w' => e = .returned (.bool true) ∧ Below w.heap.size w w' := by
  have h' := h
  obtain ⟨va, vc, rfl, _⟩ := h'
  by_cases hn : 1010 < l.length
  · exact plays_long w va l.length vc hn
  · exact plays_walk w _ l h (by omega)
end Go.Proofs.Ytkmgbnklfnjfjaa.Ker
