import Derived.Test.YtkmgbnklfnjfjaaKK
/-! Contracts: own, rest. -/
namespace Go.Proofs.Ytkmgbnklfnjfjaa.Ker
open Go.RowKit Go.Maps
open Go.ChangeMaps (setBlock)

theorem eraseIdx_filter {p : Int} : ∀ {l : List Int} {k : Nat}, l.Nodup → l[k]? = some p → l.eraseIdx k = l.filter (fun x => x != p)
  | [], k, _, h => by simp at h
  | a :: l, 0, hn, h => by
    simp only [List.nodup_cons] at hn
    obtain rfl : a = p := by simpa using h
    rw [List.eraseIdx_cons_zero, List.filter_cons_of_neg (by simp)]
    symm
    rw [List.filter_eq_self]
    intro x hx
    simp only [bne_iff_ne]
    exact fun e => hn.1 (e ▸ hx)
  | a :: l, k + 1, hn, h => by
    simp only [List.nodup_cons] at hn
    have hm : p ∈ l := List.mem_of_getElem? (by simpa using h)
    have hap : a ≠ p := fun e => hn.1 (e ▸ hm)
    rw [List.eraseIdx_cons_succ, List.filter_cons_of_pos (by simpa using hap), eraseIdx_filter hn.2 (by simpa using h)]

/-- Records of calls are kept. -/
def Keeps (w w' : World) : Prop := ∀ (b : Nat) (c : Array Value), w.heap[b]? = some (.cells c 82 (0, 0)) → w'.heap[b]? = some (.cells c 82 (0, 0))
theorem Touch.keeps {w w' : World} {P : Nat → Prop} (ht : Touch w w' P) (h : ∀ k, P k → ∃ o, w.heap[k]? = some o ∧ kindOf o ≠ 83) : Keeps w w' := by
  intro b c hb
  refine (ht.block b (blt hb) (fun hp => ?_)).trans hb
  obtain ⟨o, ho, hk⟩ := h b hp
  rw [hb] at ho
  cases ho
  exact hk rfl

/-- take, at a queue of the kernel. -/
theorem take_q (B kb : Nat) (g : G) (a : A) (w : World) (h : KRep B kb g a w) (i : Int) (hi : a.owner i) (p : Int) (hp : p ∈ a.q i) (hnd : (a.q i).Nodup) (hin : ∀ x ∈ a.q i, x ∈ a.pids) (hn : (a.q i).length ≤ 100000) :
    Calls Try.prog 77 #[.pointer (some ⟨hblk g i, hoff i, none⟩), ptr (g.pb p)] w fun e w' => e = .returned (.tuple #[]) ∧ ∃ v', Bel B kb w w' ∧ Keeps w w' ∧ KRep B kb { g with qv := upd g.qv i v' } { a with q := upd a.q i ((a.q i).filter fun x => x != p) } w' := by
  have hB : B ≤ w.heap.size := Nat.le_of_lt (Nat.lt_of_le_of_lt h.low.1 (blt h.ker))
  obtain ⟨k, hk, hkp⟩ := List.getElem_of_mem hp
  have hk2 : (a.q i)[k]? = some p := by rw [List.getElem?_eq_getElem hk, hkp]
  have hrow := h.row i hi
  have hl : ((a.q i).map g.pb).length = (a.q i).length := by simp
  have e1 : (a.q i).map (fun p => ptr (g.pb p)) = ((a.q i).map g.pb).map ptr := by simp [Function.comp_def]
  rw [e1, ← hl] at hrow
  refine (take_any w B (hblk g i) (hoff i) (hty i) (hcells a i (g.qv i)) (g.qv i) ((a.q i).map g.pb) (g.pb p) k (h.holder hi) (hcells_get a i _) hrow (by omega) (h.holder_row hi) ?_ ⟨_, h.pack p (hin p hp)⟩ (by simp [hk2]) ?_).mono ?_
  · intro x hx
    obtain ⟨y, hy, rfl⟩ := List.mem_map.1 hx
    exact ⟨_, h.pack y (hin y hy)⟩
  · intro j hj hjb
    rw [List.getElem?_map] at hjb
    obtain ⟨y, hy, hyb⟩ := Option.map_eq_some_iff.1 hjb
    have hyp : y = p := h.pb_inj (hin y (List.mem_of_getElem? hy)) (hin p hp) hyb
    subst hyp
    have h1 := (List.getElem?_eq_some_iff.1 hy)
    have h2 := (List.getElem?_eq_some_iff.1 hk2)
    have := (List.getElem_inj hnd (h₀ := h1.1) (h₁ := h2.1)).1 (h1.2.trans h2.2.symm)
    omega
  · rintro e w' ⟨he, v', ht, hb, ho, hv⟩
    refine ⟨he, v', ht.bel hB (fun k hk => ?_) h.klt, ht.keeps (fun k hk => ?_), h.setQ hi v' _ ht (by rw [hb, hcells_set]) ?_ (.inl hv)⟩
    · rcases hk with rfl | hk
      · exact h.okH hi
      · exact h.okR hi hk.symm
    · rcases hk with rfl | hk
      · refine ⟨_, h.holder hi, ?_⟩
        unfold hty kindOf
        by_cases hq : 0 < i <;> simp [hq]
      · obtain ⟨_, cur, hc⟩ := own_block (h.row i hi) hk.symm
        exact ⟨_, hc, by simp [kindOf]⟩
    · rw [← eraseIdx_filter hnd hk2]
      have e2 : (((a.q i).map g.pb).eraseIdx k).map ptr = ((a.q i).eraseIdx k).map (fun p => ptr (g.pb p)) := by
        simp [List.eraseIdx_eq_take_drop_succ, List.map_take, List.map_drop, Function.comp_def]
      rw [e2] at ho
      have e3 : ((a.q i).eraseIdx k).length = ((a.q i).map g.pb).length - 1 := by
        rw [List.length_eraseIdx, if_pos hk]
        simp
      rw [e3]
      exact ho

/-- A call's record. -/
def callAt (w : World) (cb kb : Nat) (v : Value) (x y : Int) : Prop := w.heap[cb]? = some (.cells #[ptr kb, v, .int .i64 x, .int .i64 y] 82 (0, 0))
theorem callAt.c0 {w : World} {cb kb : Nat} {v : Value} {x y : Int} (h : callAt w cb kb v x y) : w.cell? ⟨cb, 0, none⟩ = some (ptr kb) := cell_of h 0
theorem callAt.c1 {w : World} {cb kb : Nat} {v : Value} {x y : Int} (h : callAt w cb kb v x y) : w.cell? ⟨cb, 1, none⟩ = some v := cell_of h 1
theorem callAt.c2 {w : World} {cb kb : Nat} {v : Value} {x y : Int} (h : callAt w cb kb v x y) : w.cell? ⟨cb, 2, none⟩ = some (.int .i64 x) := cell_of h 2
theorem callAt.c3 {w : World} {cb kb : Nat} {v : Value} {x y : Int} (h : callAt w cb kb v x y) : w.cell? ⟨cb, 3, none⟩ = some (.int .i64 y) := cell_of h 3

/-- What own does. -/
def ownA (a : A) (p own : Int) : A :=
  { a with q := upd a.q (a.pk p).at_ ((a.q (a.pk p).at_).filter fun x => x != p), pk := upd a.pk p { a.pk p with at_ := 0, wth := own } }

set_option maxHeartbeats 1000000 in
set_option maxRecDepth 100000 in
theorem own_any (B kb : Nat) (g : G) (a : A) (w : World) (h : KRep B kb g a w) (cb : Nat) (own x y : Int) (hc : callAt w cb kb (ptr (g.tb own)) x y) (ho : own ∈ a.tids) (p : Int) (hp : p ∈ a.pids) (hat : a.owner (a.pk p).at_)
    (hq : p ∈ a.q (a.pk p).at_) (hnd : (a.q (a.pk p).at_).Nodup) (hin : ∀ x ∈ a.q (a.pk p).at_, x ∈ a.pids) (hn : (a.q (a.pk p).at_).length ≤ 100000) :
    Calls Try.prog 75 #[ptr cb, ptr (g.pb p)] w fun e w' => e = .returned (.tuple #[.int .i64 p, .int .i64 0]) ∧ ∃ qv', Bel B kb w w' ∧ KRep B kb { g with qv := qv' } (ownA a p own) w' := by
  have C1 := Lib.hid (KRep.rowAny B kb g a w.drew (h.keep (fun _ _ => rfl)) _ hat)
  have C2 := Lib.hid (take_q B kb g a w.drew (h.keep (fun _ _ => rfl)) _ hat p hq hnd hin hn)
  have c0 := hc.c0
  have p4 := h.p4 hp
  have HP := Lib.hid hp
  have HO := Lib.hid ho
  have HC := Lib.hid hc
  have H := Lib.hid h
  obtain ⟨C, hCd⟩ : ∃ C : World → Prop, ∀ z, C z ↔ (z.cell? ⟨cb, 0, none⟩ = some (ptr kb) ∧ z.cell? ⟨g.pb p, 4, none⟩ = some (.int .i64 (a.pk p).at_)) := ⟨_, fun _ => Iff.rfl⟩
  have hC0 : C w.drew := (hCd _).2 ⟨c0, p4⟩
  have s0 : ∀ s : {z : World // C z}, s.1.cell? ⟨cb, 0, none⟩ = some (ptr kb) := fun s => ((hCd s.1).1 s.2).1
  have s4 : ∀ s : {z : World // C z}, s.1.cell? ⟨g.pb p, 4, none⟩ = some (.int .i64 (a.pk p).at_) := fun s => ((hCd s.1).1 s.2).2
  haveI : Nonempty {z : World // C z} := ⟨⟨_, hC0⟩⟩
  have HC0 := Lib.hid hC0
  clear h hc hp ho hat hq hnd hin hCd
  go_enter Try.func75, Try.ntmps75
  go_wp2
  refine Mix.wp_region_mix C [8, 10] (by kernel_rfl) (by kernel_rfl) hC0 ?_
  repeat (refine Mix.mix_still rfl (fun K hK => ?_); go_simp; refine hK _ ?_; clear hK K)
  refine Mix.mix_eff rfl ?_
  go_wp2_with (go_at_call 31; (with_reducible refine C1.out.mono ?_); rintro e w' ⟨rfl, rfl⟩)
  refine ⟨HC0.out, ?_⟩
  repeat (refine Mix.mix_still rfl (fun K hK => ?_); go_simp; refine hK _ ?_; clear hK K)
  refine Mix.mix_eff rfl ?_
  go_wp2_with (go_at_call 77; (with_reducible refine C2.out.mono ?_); rintro e w1 ⟨rfl, v1, hb1, hk1, h1⟩; have HB1 := Lib.hid hb1; have HK1 := Lib.hid hk1; have H1 := Lib.hid h1; clear hb1 hk1 h1)
  refine Mix.mix_nil ?_
  have c1 := (show callAt w1 cb kb (ptr (g.tb own)) x y from HK1.out _ _ HC.out).c1
  have t0 := H1.out.t0 HO.out
  have p4 := H1.out.p4 HP.out
  have p6 := H1.out.p6 HP.out
  have p0 := H1.out.p0 HP.out
  have f4 := H1.out.pf HP.out 4
  have f6 := H1.out.pf HP.out 6
  simp only at t0 p4 p6 p0 f4 f6
  clear s0 s4 c0
  go_wp2
  go_ret2
  have e1 := set_same (set_same (H1.out.pack p HP.out) 4 (.int .i64 0)) 6 (.int .i64 own)
  have h5 := H1.out.setPack HP.out { a.pk p with at_ := 0, wth := own } (w' := (w1.setCell ⟨g.pb p, 4, none⟩ (.int .i64 0)).setCell ⟨g.pb p, 6, none⟩ (.int .i64 own)) ((Touch.setCell _ _ _ (S := fun k => k = g.pb p) rfl).trans (Touch.setCell _ _ _ rfl)) (by simpa [pcells] using e1)
  have hl := H1.out.okP HP.out
  exact ⟨rfl, _, (((Bel.refl _ _ _).drew.trans HB1.out).setCell hl _).setCell hl.set _, h5⟩

set_option maxRecDepth 100000 in
/-- rest. -/
theorem rest_any (B kb : Nat) (g : G) (a : A) (w : World) (h : KRep B kb g a w) (cb : Nat) (own x y : Int) (hc : callAt w cb kb (ptr (g.tb own)) x y) (ho : own ∈ a.tids) (id : Int) :
    Calls Try.prog 74 #[ptr cb, .int .i64 id] w fun e w' => e = .returned (.tuple #[.int .i64 0, .int .i64 0]) ∧ Bel B kb w w' ∧ KRep B kb g { a with tk := upd a.tk own { a.tk own with waiting := true, forr := id } } w' := by
  have c1 := hc.c1
  have t3 := h.t3 ho
  have t4 := h.t4 ho
  have f3 := h.tf ho 3
  have f4 := h.tf ho 4
  have HO := Lib.hid ho
  have H := Lib.hid h
  obtain ⟨C, hCd⟩ : ∃ C : World → Prop, ∀ z, C z ↔ (z.cell? ⟨cb, 1, none⟩ = some (ptr (g.tb own)) ∧ z.cell? ⟨g.tb own, 4, none⟩ = some (.int .i64 (a.tk own).forr)) := ⟨_, fun _ => Iff.rfl⟩
  have hC0 : C w.drew := (hCd _).2 ⟨c1, t4⟩
  have s1 : ∀ s : {z : World // C z}, s.1.cell? ⟨cb, 1, none⟩ = some (ptr (g.tb own)) := fun s => ((hCd s.1).1 s.2).1
  haveI : Nonempty {z : World // C z} := ⟨⟨_, hC0⟩⟩
  have hc1 : C (w.drew.setCell ⟨g.tb own, 3, none⟩ (.bool true)) := by
    have hne : cb ≠ g.tb own := ne_obj hc (h.task own ho) (by simp)
    refine (hCd _).2 ⟨?_, ?_⟩
    · rw [cell_of ((set_other hne).trans (show w.drew.heap[cb]? = _ from hc))]; rfl
    · rw [cell_of (set_same (show w.drew.heap[g.tb own]? = _ from h.task own ho) 3 _)]; simp [tcells]
  clear h hc ho hCd
  go_enter Try.func74, Try.ntmps74
  go_wp2
  refine Mix.wp_region_mix C [12, 16] (by kernel_rfl) (by kernel_rfl) hC0 ?_
  repeat (refine Mix.mix_still rfl (fun K hK => ?_); go_simp; refine hK _ ?_; clear hK K)
  refine Mix.mix_eff rfl ?_
  go_wp2
  refine ⟨hc1, ?_⟩
  repeat (refine Mix.mix_still rfl (fun K hK => ?_); go_simp; refine hK _ ?_; clear hK K)
  refine Mix.mix_eff rfl ?_
  go_wp2
  refine Mix.mix_nil ?_
  go_wp2
  go_ret2
  have e1 := set_same (set_same (w := w.drew) (H.out.task own HO.out) 3 (.bool true)) 4 (.int .i64 id)
  have h5 := (H.out.keep (w' := w.drew) (fun _ _ => rfl)).setTask (w' := (w.drew.setCell ⟨g.tb own, 3, none⟩ (.bool true)).setCell ⟨g.tb own, 4, none⟩ (.int .i64 id)) HO.out { a.tk own with waiting := true, forr := id } ((Touch.setCell _ _ _ (S := fun k => k = g.tb own) rfl).trans (Touch.setCell _ _ _ rfl)) (by simpa [tcells] using e1)
  have hl := H.out.okT HO.out
  have hl := hl.drew
  exact ⟨rfl, ((Bel.refl _ _ _).drew.setCell hl _).setCell hl.set _, h5⟩
end Go.Proofs.Ytkmgbnklfnjfjaa.Ker
