import Derived.Test.YtkmgbnklfnjfjaaKL
/-! Contracts: send, take. What always holds of a kernel. -/
namespace Go.Proofs.Ytkmgbnklfnjfjaa.Ker
open Go.RowKit Go.Maps
open Go.ChangeMaps (setBlock)

structure Good (a : A) : Prop where
  tnd : a.tids.Nodup
  pnd : a.pids.Nodup
  trng : ∀ i ∈ a.tids, 1 ≤ i ∧ i ≤ 20
  prng : ∀ i ∈ a.tids, 1 ≤ (a.tk i).pri ∧ (a.tk i).pri ≤ 1000
  pinj : ∀ i ∈ a.tids, ∀ j ∈ a.tids, (a.tk i).pri = (a.tk j).pri → i = j
  pkr : ∀ p ∈ a.pids, 1 ≤ p ∧ p ≤ a.made
  made : 0 ≤ a.made ∧ a.made ≤ 200
  qin : ∀ i, a.owner i → ∀ p ∈ a.q i, p ∈ a.pids ∧ (a.pk p).at_ = i
  qnd : ∀ i, a.owner i → (a.q i).Nodup
  inq : ∀ p ∈ a.pids, (a.pk p).at_ ≠ 0 → a.owner (a.pk p).at_ ∧ p ∈ a.q (a.pk p).at_
  wth0 : ∀ p ∈ a.pids, (a.pk p).at_ ≠ 0 → (a.pk p).wth = 0
  mcalls : (a.moves.length : Int) ≤ a.calls

theorem nodup_bound : ∀ (m : Nat) (l : List Int), l.Nodup → (∀ x ∈ l, 1 ≤ x ∧ x ≤ m) → l.length ≤ m
  | 0, l, _, h => by
    cases l with
    | nil => simp
    | cons x l => have := h x (by simp); omega
  | m + 1, l, hn, h => by
    have h1 := nodup_bound m (l.filter (fun x => x != ((m + 1 : Nat) : Int))) (hn.sublist List.filter_sublist) (fun x hx => by
      have h2 := h x (List.mem_filter.1 hx).1
      have h3 : x ≠ ((m + 1 : Nat) : Int) := by simpa using (List.mem_filter.1 hx).2
      omega)
    by_cases hm : ((m + 1 : Nat) : Int) ∈ l
    · obtain ⟨k, hk, hkp⟩ := List.getElem_of_mem hm
      have := eraseIdx_filter (p := ((m + 1 : Nat) : Int)) (k := k) hn (by rw [List.getElem?_eq_getElem hk, hkp])
      rw [← this, List.length_eraseIdx, if_pos hk] at h1
      omega
    · rw [List.filter_eq_self.2 (fun x hx => by
        simp only [bne_iff_ne]
        exact fun e => hm (by rw [← e]; exact hx))] at h1
      omega
theorem Good.qlen {a : A} (h : Good a) {i : Int} (hi : a.owner i) : (a.q i).length ≤ 200 := by
  have := nodup_bound a.made.toNat (a.q i) (h.qnd i hi) (fun x hx => by
    have := h.pkr x (h.qin i hi x hx).1
    have := h.made
    omega)
  have := h.made
  omega

set_option maxHeartbeats 1000000 in
set_option maxRecDepth 100000 in
/-- own of a packet that is in a queue. -/
theorem own_good (B kb : Nat) (g : G) (a : A) (w : World) (h : KRep B kb g a w) (G : Good a) (cb : Nat) (own x y : Int) (hc : callAt w cb kb (ptr (g.tb own)) x y) (ho : own ∈ a.tids) (p : Int) (hp : p ∈ a.pids) (hat : (a.pk p).at_ ≠ 0) :
    Calls Try.prog 75 #[ptr cb, ptr (g.pb p)] w fun e w' => e = .returned (.tuple #[.int .i64 p, .int .i64 0]) ∧ ∃ qv', Bel B kb w w' ∧ KRep B kb { g with qv := qv' } (ownA a p own) w' := by
  obtain ⟨h1, h2⟩ := G.inq p hp hat
  exact own_any B kb g a w h cb own x y hc ho p hp h1 h2 (G.qnd _ h1) (fun z hz => (G.qin _ h1 z hz).1) (by have := G.qlen h1; omega)

/-- A call that gives a number and an error, and leaves a state. -/
def Gives (B kb : Nat) (w : World) (v er : Int) (a' : A) : Ending → World → Prop := fun e w' => e = .returned (.tuple #[.int .i64 v, .int .i64 er]) ∧ Bel B kb w w' ∧ ∃ g', KRep B kb g' a' w'
theorem Gives.same {B kb : Nat} {g : G} {a : A} {w w' : World} (h : KRep B kb g a w) (v er : Int) (n : Nat) (hw : w' = w.drewN n) : Gives B kb w v er a (.returned (.tuple #[.int .i64 v, .int .i64 er])) w' := by
  subst hw
  exact ⟨rfl, bel_drewN (Bel.refl _ _ _) _, g, h.keep (fun _ _ => rfl)⟩

/-- What rest does. -/
def restA (a : A) (own id : Int) : A := { a with tk := upd a.tk own { a.tk own with waiting := true, forr := id } }

set_option maxHeartbeats 1000000 in
set_option maxRecDepth 100000 in
theorem take_none (B kb : Nat) (g : G) (a : A) (w : World) (h : KRep B kb g a w) (cb : Nat) (own x y : Int) (hc : callAt w cb kb (ptr (g.tb own)) x y) (ho : own ∈ a.tids) (hq : a.q own = []) :
    Calls Try.prog 43 #[ptr cb] w (Gives B kb w 0 0 (restA a own 0)) := by
  have c1 := hc.c1
  have hrow := h.row own (.inl ho)
  rw [hq] at hrow
  obtain ⟨va, vc, hv⟩ := own_form hrow
  have C1 := Lib.hid (first_none w (g.tb own) 7 va vc (by rw [cell_of (h.task own ho)]; simp [tcells, hv]))
  have C2 := Lib.hid (rest_any B kb g a w h cb own x y hc ho 0)
  clear h hc ho hq hrow hv
  go_enter Try.func43, Try.ntmps43
  go_wp2_with (first | (go_at_call 73; (with_reducible refine C1.out.mono ?_); rintro e w' ⟨rfl, rfl⟩) | (go_at_call 74; (with_reducible refine C2.out.mono ?_); rintro e w' ⟨rfl, hb, hk⟩; have HB := Lib.hid hb; have HK := Lib.hid hk; clear hb hk))
  go_ret2
  exact ⟨rfl, HB.out, g, HK.out⟩
set_option maxHeartbeats 1000000 in
set_option maxRecDepth 100000 in
theorem take_some (B kb : Nat) (g : G) (a : A) (w : World) (h : KRep B kb g a w) (G : Good a) (cb : Nat) (own x y : Int) (hc : callAt w cb kb (ptr (g.tb own)) x y) (ho : own ∈ a.tids) (p : Int) (l : List Int) (hq : a.q own = p :: l) :
    Calls Try.prog 43 #[ptr cb] w (Gives B kb w p 0 (ownA a p own)) := by
  have c1 := hc.c1
  have hrow := h.row own (.inl ho)
  have hpm := G.qin own (.inl ho) p (by rw [hq]; simp)
  have hl := G.qlen (i := own) (.inl ho)
  obtain ⟨r, cap, hv, _, _, _, _, _, _, _, hcell⟩ := own_cell hrow (by rw [hq]; simp)
  have hx := hcell 0 (by rw [hq]; simp)
  rw [hq] at hx
  simp at hx
  have C1 := Lib.hid (first_some w (g.tb own) 7 r (a.q own).length cap (ptr (g.pb p)) (by rw [hq]; simp) (by rw [cell_of (h.task own ho)]; simp [tcells, hv]) hx (by omega))
  have C2 := Lib.hid (own_good B kb g a w h G cb own x y hc ho p hpm.1 (by rw [hpm.2]; have := G.trng own ho; omega))
  clear h hc ho hq hrow hv hcell hx hpm hl G
  go_enter Try.func43, Try.ntmps43
  go_wp2_with (first | (go_at_call 73; (with_reducible refine C1.out.mono ?_); rintro e w' ⟨rfl, rfl⟩) | (go_at_call 75; (with_reducible refine C2.out.mono ?_); rintro e w' ⟨rfl, qv, hb, hk⟩; have HB := Lib.hid hb; have HK := Lib.hid hk; clear hb hk))
  go_ret2
  exact ⟨rfl, HB.out, _, HK.out⟩

set_option maxHeartbeats 1000000 in
set_option maxRecDepth 100000 in
/-- send, where there is no such packet. -/
theorem send_none (B kb : Nat) (g : G) (a : A) (w : World) (h : KRep B kb g a w) (cb : Nat) (own x y : Int) (hc : callAt w cb kb (ptr (g.tb own)) x y) (hx : x ∉ a.pids) :
    Calls Try.prog 42 #[ptr cb] w (Gives B kb w 0 191 a) := by
  have c0 := hc.c0
  have c2 := hc.c2
  have k2 := h.k2
  have H := Lib.hid h
  have hl : ∀ n, (Instr.lookup 68 (.map (some g.pm)) (.int .i64 x) false).run Try.prog (w.drewN n) = .ok (.pointer none) (w.drewN n) := fun n => by
    have := (h.keep (w' := w.drewN n) (fun _ _ => rfl)).lookP x
    rwa [if_neg hx] at this
  clear h hc hx
  go_enter Try.func42, Try.ntmps42
  go_wp2
  go_quiet (fail)
  go_wp2
  go_quiet (fail)
  go_wp2
  go_ret2
  exact Gives.same H.out 0 191 _ (World.drewN_drewN _ _ _)
set_option maxHeartbeats 1000000 in
set_option maxRecDepth 100000 in
/-- send, where the packet is not with the caller. -/
theorem send_other (B kb : Nat) (g : G) (a : A) (w : World) (h : KRep B kb g a w) (cb : Nat) (own x y : Int) (hc : callAt w cb kb (ptr (g.tb own)) x y) (ho : own ∈ a.tids) (hx : x ∈ a.pids) (hw : (a.pk x).wth ≠ own) :
    Calls Try.prog 42 #[ptr cb] w (Gives B kb w 0 191 a) := by
  have c0 := hc.c0
  have c1 := hc.c1
  have c2 := hc.c2
  have k2 := h.k2
  have t0 := h.t0 ho
  have p6 := h.p6 hx
  have H := Lib.hid h
  have hl : ∀ n, (Instr.lookup 68 (.map (some g.pm)) (.int .i64 x) false).run Try.prog (w.drewN n) = .ok (ptr (g.pb x)) (w.drewN n) := fun n => by
    have := (h.keep (w' := w.drewN n) (fun _ _ => rfl)).lookP x
    rwa [if_pos hx] at this
  have hne : ((a.pk x).wth != own) = true := by simpa using hw
  clear h hc hx ho hw
  go_enter Try.func42, Try.ntmps42
  go_wp2
  go_quiet (fail)
  go_wp2
  go_quiet (fail)
  go_wp2
  go_ret2
  exact Gives.same H.out 0 191 _ (World.drewN_drewN _ _ _)
set_option maxHeartbeats 1000000 in
set_option maxRecDepth 100000 in
/-- send to oneself. -/
theorem send_self (B kb : Nat) (g : G) (a : A) (w : World) (h : KRep B kb g a w) (cb : Nat) (own x y : Int) (hc : callAt w cb kb (ptr (g.tb own)) x y) (ho : own ∈ a.tids) (hx : x ∈ a.pids) (hw : (a.pk x).wth = own) (hy : y = own) :
    Calls Try.prog 42 #[ptr cb] w (Gives B kb w 0 190 a) := by
  have c0 := hc.c0
  have c1 := hc.c1
  have c2 := hc.c2
  have c3 := hc.c3
  have k2 := h.k2
  have t0 := h.t0 ho
  have p6 := h.p6 hx
  rw [hw] at p6
  rw [hy] at c3
  have H := Lib.hid h
  have hl : ∀ n, (Instr.lookup 68 (.map (some g.pm)) (.int .i64 x) false).run Try.prog (w.drewN n) = .ok (ptr (g.pb x)) (w.drewN n) := fun n => by
    have := (h.keep (w' := w.drewN n) (fun _ _ => rfl)).lookP x
    rwa [if_pos hx] at this
  clear h hc hx ho hw hy
  go_enter Try.func42, Try.ntmps42
  go_wp2
  go_quiet (fail)
  go_wp2
  go_quiet (fail)
  go_wp2
  go_quiet (fail)
  go_wp2
  go_ret2
  exact Gives.same H.out 0 190 _ (by rw [World.drewN_drewN, World.drewN_drewN])
set_option maxHeartbeats 1000000 in
set_option maxRecDepth 100000 in
/-- send to nobody. -/
theorem send_nobody (B kb : Nat) (g : G) (a : A) (w : World) (h : KRep B kb g a w) (cb : Nat) (own x y : Int) (hc : callAt w cb kb (ptr (g.tb own)) x y) (ho : own ∈ a.tids) (hx : x ∈ a.pids) (hw : (a.pk x).wth = own) (hy : y ≠ own) (hn : ¬ a.owner y) :
    Calls Try.prog 42 #[ptr cb] w (Gives B kb w 0 190 a) := by
  have c0 := hc.c0
  have c1 := hc.c1
  have c2 := hc.c2
  have c3 := hc.c3
  have k2 := h.k2
  have t0 := h.t0 ho
  have p6 := h.p6 hx
  rw [hw] at p6
  have hye : (y == own) = false := by simpa using hy
  have H := Lib.hid h
  have hl : ∀ n, (Instr.lookup 68 (.map (some g.pm)) (.int .i64 x) false).run Try.prog (w.drewN n) = .ok (ptr (g.pb x)) (w.drewN n) := fun n => by
    have := (h.keep (w' := w.drewN n) (fun _ _ => rfl)).lookP x
    rwa [if_pos hx] at this
  have HNO := Lib.hid hn
  clear h hc hx ho hw hy hn
  go_enter Try.func42, Try.ntmps42
  go_wp2
  go_quiet (fail)
  go_wp2
  go_quiet (fail)
  go_wp2
  go_quiet (((refine (row_none B kb g a _ ?_ y HNO.out).mono ?_); (exact H.out.keep (fun _ _ => rfl)); (intro e w' h; exact ⟨h.1, _, h.2.symm⟩)))
  go_wp2
  go_ret2
  exact Gives.same H.out 0 190 _ (by rw [World.drewN_drewN, World.drewN_drewN])
set_option maxHeartbeats 1000000 in
set_option maxRecDepth 100000 in
/-- send. -/
theorem send_ok (B kb : Nat) (g : G) (a : A) (w : World) (h : KRep B kb g a w) (G : Good a) (cb : Nat) (own x y : Int) (hc : callAt w cb kb (ptr (g.tb own)) x y) (ho : own ∈ a.tids) (hx : x ∈ a.pids) (hw : (a.pk x).wth = own) (hy : y ≠ own) (hn : a.owner y)
    (hc1 : 1 ≤ a.calls) (hc2 : a.calls ≤ 100000) :
    Calls Try.prog 42 #[ptr cb] w (Gives B kb w 0 0 (moveA a x own y)) := by
  have c0 := hc.c0
  have c1 := hc.c1
  have c2 := hc.c2
  have c3 := hc.c3
  have k2 := h.k2
  have t0 := h.t0 ho
  have p6 := h.p6 hx
  rw [hw] at p6
  have hye : (y == own) = false := by simpa using hy
  have H := Lib.hid h
  have hl : ∀ n, (Instr.lookup 68 (.map (some g.pm)) (.int .i64 x) false).run Try.prog (w.drewN n) = .ok (ptr (g.pb x)) (w.drewN n) := fun n => by
    have := (h.keep (w' := w.drewN n) (fun _ _ => rfl)).lookP x
    rwa [if_pos hx] at this
  have HNO := Lib.hid hn
  have HX := Lib.hid hx
  have HQ := Lib.hid (G.qlen hn)
  have HM := Lib.hid G.mcalls
  clear h hc hx ho hw hy hn G
  go_enter Try.func42, Try.ntmps42
  go_wp2
  go_quiet (fail)
  go_wp2
  go_quiet (fail)
  go_wp2
  go_quiet (((refine (KRep.rowAny B kb g a _ ?_ y HNO.out).mono ?_); (exact H.out.keep (fun _ _ => rfl)); (intro e w' h; exact ⟨h.1, _, h.2.symm⟩)))
  go_wp2
  obtain ⟨C, hCd⟩ : ∃ C : World → Prop, ∀ z, C z ↔ (z.cell? ⟨cb, 0, none⟩ = some (ptr kb) ∧ z.cell? ⟨cb, 1, none⟩ = some (ptr (g.tb own)) ∧ z.cell? ⟨cb, 3, none⟩ = some (.int .i64 y) ∧ z.cell? ⟨g.tb own, 0, none⟩ = some (.int .i64 own)) := ⟨_, fun _ => Iff.rfl⟩
  have s0 : ∀ s : {z : World // C z}, s.1.cell? ⟨cb, 0, none⟩ = some (ptr kb) := fun s => ((hCd s.1).1 s.2).1
  have s1 : ∀ s : {z : World // C z}, s.1.cell? ⟨cb, 1, none⟩ = some (ptr (g.tb own)) := fun s => ((hCd s.1).1 s.2).2.1
  have s3 : ∀ s : {z : World // C z}, s.1.cell? ⟨cb, 3, none⟩ = some (.int .i64 y) := fun s => ((hCd s.1).1 s.2).2.2.1
  have st : ∀ s : {z : World // C z}, s.1.cell? ⟨g.tb own, 0, none⟩ = some (.int .i64 own) := fun s => ((hCd s.1).1 s.2).2.2.2
  haveI : Nonempty {z : World // C z} := ⟨⟨w, (hCd _).2 ⟨c0, c1, c3, t0⟩⟩⟩
  refine Mix.wp_region_mix C [17] (by kernel_rfl) (by kernel_rfl) ((hCd _).2 ⟨c0, c1, c3, t0⟩) ?_
  clear hCd
  repeat (refine Mix.mix_still rfl (fun K hK => ?_); go_simp; refine hK _ ?_; clear hK K)
  refine Mix.mix_eff rfl ?_
  go_wp2_with (go_at_call 72; (with_reducible refine (move_any B kb g a _ ?hk x own y HX.out HNO.out (by have := HQ.out; omega) (by have := HM.out; omega) hc1 (by omega)).mono ?_); (case hk => exact H.out.keep (fun _ _ => rfl)); rintro e w1 ⟨rfl, qv, hb1, hk1⟩; have HB1 := Lib.hid hb1; have HK1 := Lib.hid hk1; clear hb1 hk1)
  refine Mix.mix_nil ?_
  go_wp2
  go_ret2
  exact ⟨rfl, (Bel.refl B kb w).trans ⟨HB1.out.os, HB1.out.tape, HB1.out.output, HB1.out.size, HB1.out.block, HB1.out.off, HB1.out.held⟩, _, HK1.out⟩
end Go.Proofs.Ytkmgbnklfnjfjaa.Ker
