import Derived.Test.YtkmgbnklfnjfjaaKN
/-! Contracts: pri, packet, device. -/
namespace Go.Proofs.Ytkmgbnklfnjfjaa.Ker
open Go.RowKit Go.Maps
open Go.ChangeMaps (setBlock)

/-- 'm[k] = v', a new key. -/
theorem wpList_put {ops : Array Oper} {rest : List Oper} {o : Oper} {a : Act} {w : World} {Q : Exit → Act → World → Prop} (hg : o.guard = none) (m k v : Operand) (t e : TypeId) (ho : o.op = .mapUpdate t m k v) (ht : Try.prog.underlying t = some (.map 3 e)) {b : Nat} {kk : Int} {vv : Nat} {kvs : List (Int × Nat)}
    (hm : a.eval m = .map (some b)) (hk : a.eval k = .int .i64 kk) (hv : a.eval v = ptr vv) (hmap : mapAt w b kvs) (hn : look kvs kk = none)
    (h : ∀ o', mapAt (setBlock w b o') b (kvs ++ [(kk, vv)]) → wpList Try.prog ops Q rest (a.put o.dst undef) (setBlock w b o')) : wpList Try.prog ops Q (o :: rest) a w := by
  obtain ⟨o', hr, hmap'⟩ := run_put hmap t e ht kk vv hn
  refine wpList_plain hg fun K hK => ?_
  unfold Oper.wp execOp
  simp only [ho, hm, hk, hv, Sem.run_bind, hr, Result.andThen_ok]
  exact hK _ _ (h o' hmap')

def priA (a : A) (x y : Int) : A := { a with tk := upd a.tk x { a.tk x with pri := y } }
set_option maxHeartbeats 1000000 in
set_option maxRecDepth 100000 in
theorem pri_none (B kb : Nat) (g : G) (a : A) (w : World) (h : KRep B kb g a w) (cb : Nat) (x y : Int) (v : Value) (hc : callAt w cb kb v x y) (hx : x ∉ a.tids) :
    Calls Try.prog 48 #[ptr cb] w (Gives B kb w 0 190 a) := by
  have c0 := hc.c0
  have c2 := hc.c2
  have c3 := hc.c3
  have k0 := h.k0
  have H := Lib.hid h
  have HC := Lib.hid hc
  have hl : ∀ n, (Instr.lookup 66 (.map (some g.tm)) (.int .i64 x) false).run Try.prog (w.drewN n) = .ok (.pointer none) (w.drewN n) := fun n => by
    have := (h.keep (w' := w.drewN n) (fun _ _ => rfl)).lookT x
    rwa [if_neg hx] at this
  clear h hc hx
  go_enter Try.func48, Try.ntmps48
  go_wp2
  go_quiet (fail)
  go_wp2
  go_ret2
  exact Gives.same H.out 0 190 _ rfl
set_option maxHeartbeats 1000000 in
set_option maxRecDepth 100000 in
theorem pri_lo (B kb : Nat) (g : G) (a : A) (w : World) (h : KRep B kb g a w) (cb : Nat) (x y : Int) (v : Value) (hc : callAt w cb kb v x y) (hx : x ∈ a.tids) (hy : y < 1) :
    Calls Try.prog 48 #[ptr cb] w (Gives B kb w 0 1 a) := by
  have c0 := hc.c0
  have c2 := hc.c2
  have c3 := hc.c3
  have k0 := h.k0
  have H := Lib.hid h
  have HC := Lib.hid hc
  have hl : ∀ n, (Instr.lookup 66 (.map (some g.tm)) (.int .i64 x) false).run Try.prog (w.drewN n) = .ok (ptr (g.tb x)) (w.drewN n) := fun n => by
    have := (h.keep (w' := w.drewN n) (fun _ _ => rfl)).lookT x
    rwa [if_pos hx] at this
  clear h hc hx
  have hd : decide (y < 1) = true := by simp; omega
  clear hy
  go_enter Try.func48, Try.ntmps48
  go_wp2
  go_quiet (fail)
  go_wp2
  go_ret2
  exact Gives.same H.out 0 1 _ rfl
set_option maxHeartbeats 1000000 in
set_option maxRecDepth 100000 in
theorem pri_hi (B kb : Nat) (g : G) (a : A) (w : World) (h : KRep B kb g a w) (cb : Nat) (x y : Int) (v : Value) (hc : callAt w cb kb v x y) (hx : x ∈ a.tids) (hy : 1000 < y) :
    Calls Try.prog 48 #[ptr cb] w (Gives B kb w 0 1 a) := by
  have c0 := hc.c0
  have c2 := hc.c2
  have c3 := hc.c3
  have k0 := h.k0
  have H := Lib.hid h
  have HC := Lib.hid hc
  have hl : ∀ n, (Instr.lookup 66 (.map (some g.tm)) (.int .i64 x) false).run Try.prog (w.drewN n) = .ok (ptr (g.tb x)) (w.drewN n) := fun n => by
    have := (h.keep (w' := w.drewN n) (fun _ _ => rfl)).lookT x
    rwa [if_pos hx] at this
  clear h hc hx
  have hd : decide (y < 1) = false := by simp; omega
  have hd2 : decide (1000 < y) = true := by simp; omega
  clear hy
  go_enter Try.func48, Try.ntmps48
  go_wp2
  go_quiet (fail)
  go_wp2
  go_ret2
  exact Gives.same H.out 0 1 _ rfl
set_option maxHeartbeats 1000000 in
set_option maxRecDepth 100000 in
theorem pri_twice (B kb : Nat) (g : G) (a : A) (w : World) (h : KRep B kb g a w) (cb : Nat) (x y : Int) (v : Value) (hc : callAt w cb kb v x y) (htn : a.tids.Nodup) (hx : x ∈ a.tids) (hy : 1 ≤ y ∧ y ≤ 1000) (htk : takenA a y x = true) :
    Calls Try.prog 48 #[ptr cb] w (Gives B kb w 0 6 a) := by
  have c0 := hc.c0
  have c2 := hc.c2
  have c3 := hc.c3
  have k0 := h.k0
  have H := Lib.hid h
  have HC := Lib.hid hc
  have HX := Lib.hid hx
  have HTN := Lib.hid htn
  have hl : ∀ n, (Instr.lookup 66 (.map (some g.tm)) (.int .i64 x) false).run Try.prog (w.drewN n) = .ok (ptr (g.tb x)) (w.drewN n) := fun n => by
    have := (h.keep (w' := w.drewN n) (fun _ _ => rfl)).lookT x
    rwa [if_pos hx] at this
  clear h hc hx htn
  have hd : decide (y < 1) = false := by simp; omega
  have hd2 : decide (1000 < y) = false := by simp; omega
  have HTK := Lib.hid htk
  clear hy htk
  go_enter Try.func48, Try.ntmps48
  go_wp2
  go_quiet (fail)
  go_wp2
  have he := fun z : Xt => H.out.below (Below.trans (below_drewN (Below.refl w.heap.size w) nq) (ext_below (w.drewN nq) z))
  have e0 := fun z : Xt => (show callAt (ext (w.drewN nq) z) cb kb v x y from ((ext_below (w.drewN nq) z).block _ (blt HC.out)).trans HC.out).c0
  have e2 := fun z : Xt => (show callAt (ext (w.drewN nq) z) cb kb v x y from ((ext_below (w.drewN nq) z).block _ (blt HC.out)).trans HC.out).c2
  have e3 := fun z : Xt => (show callAt (ext (w.drewN nq) z) cb kb v x y from ((ext_below (w.drewN nq) z).block _ (blt HC.out)).trans HC.out).c3
  have HE := Lib.hid he
  clear he
  refine wp_region_ext (by kernel_rfl) (by kernel_rfl) ?_
  repeat (quiet_step (((refine (taken_any B kb g a _ (HE.out _) HTN.out y x).mono ?_); (intro e w' hh; rw [HTK.out] at hh; exact ⟨hh.1, ext_of hh.2⟩))))
  refine wpQuiet_nil ?_
  rintro _ ⟨z, rfl⟩
  go_wp2
  go_ret2
  have hl : B ≤ w.heap.size := Nat.le_of_lt (Nat.lt_of_le_of_lt H.out.low.1 (blt H.out.ker))
  exact ⟨rfl, (bel_drewN (Bel.refl _ _ _) _).trans ((ext_below (w.drewN nq) z).bel hl H.out.klt), g, HE.out z⟩
set_option maxHeartbeats 1000000 in
set_option maxRecDepth 100000 in
theorem pri_ok (B kb : Nat) (g : G) (a : A) (w : World) (h : KRep B kb g a w) (cb : Nat) (x y : Int) (v : Value) (hc : callAt w cb kb v x y) (htn : a.tids.Nodup) (hx : x ∈ a.tids) (hy : 1 ≤ y ∧ y ≤ 1000) (htk : takenA a y x = false) :
    Calls Try.prog 48 #[ptr cb] w (Gives B kb w 0 0 (priA a x y)) := by
  have c0 := hc.c0
  have c2 := hc.c2
  have c3 := hc.c3
  have k0 := h.k0
  have H := Lib.hid h
  have HC := Lib.hid hc
  have HX := Lib.hid hx
  have HTN := Lib.hid htn
  have hl : ∀ n, (Instr.lookup 66 (.map (some g.tm)) (.int .i64 x) false).run Try.prog (w.drewN n) = .ok (ptr (g.tb x)) (w.drewN n) := fun n => by
    have := (h.keep (w' := w.drewN n) (fun _ _ => rfl)).lookT x
    rwa [if_pos hx] at this
  clear h hc hx htn
  have hd : decide (y < 1) = false := by simp; omega
  have hd2 : decide (1000 < y) = false := by simp; omega
  have HTK := Lib.hid htk
  clear hy htk
  go_enter Try.func48, Try.ntmps48
  go_wp2
  go_quiet (fail)
  go_wp2
  have he := fun z : Xt => H.out.below (Below.trans (below_drewN (Below.refl w.heap.size w) nq) (ext_below (w.drewN nq) z))
  have e0 := fun z : Xt => (show callAt (ext (w.drewN nq) z) cb kb v x y from ((ext_below (w.drewN nq) z).block _ (blt HC.out)).trans HC.out).c0
  have e2 := fun z : Xt => (show callAt (ext (w.drewN nq) z) cb kb v x y from ((ext_below (w.drewN nq) z).block _ (blt HC.out)).trans HC.out).c2
  have e3 := fun z : Xt => (show callAt (ext (w.drewN nq) z) cb kb v x y from ((ext_below (w.drewN nq) z).block _ (blt HC.out)).trans HC.out).c3
  have HE := Lib.hid he
  clear he
  refine wp_region_ext (by kernel_rfl) (by kernel_rfl) ?_
  repeat (quiet_step (((refine (taken_any B kb g a _ (HE.out _) HTN.out y x).mono ?_); (intro e w' hh; rw [HTK.out] at hh; exact ⟨hh.1, ext_of hh.2⟩))))
  refine wpQuiet_nil ?_
  rintro _ ⟨z, rfl⟩
  have t1 := (HE.out z).t1 HX.out
  have f1 := (HE.out z).tf HX.out 1
  go_wp2
  go_ret2
  have hl : B ≤ w.heap.size := Nat.le_of_lt (Nat.lt_of_le_of_lt H.out.low.1 (blt H.out.ker))
  have h1 := HE.out z
  have e1 := set_same (h1.task x HX.out) 1 (.int .i64 y)
  exact ⟨rfl, ((bel_drewN (Bel.refl _ _ _) _).trans ((ext_below (w.drewN nq) z).bel hl H.out.klt)).setCell (p := ⟨g.tb x, 1, none⟩) (h1.okT HX.out) _, g, h1.setTask HX.out { a.tk x with pri := y } (Touch.setCell _ _ _ (S := fun k => k = g.tb x) rfl) (by simpa [tcells] using e1)⟩
/-- What packet does. -/
def packA (a : A) (own ty : Int) : A := { a with made := a.made + 1, pids := a.pids ++ [a.made + 1], pk := upd a.pk (a.made + 1) { ty := ty, res := 0, own := own, at_ := 0, frm := 0, wth := own } }
set_option maxHeartbeats 1000000 in
set_option maxRecDepth 100000 in
theorem packet_limit (B kb : Nat) (g : G) (a : A) (w : World) (h : KRep B kb g a w) (cb : Nat) (own x y : Int) (hc : callAt w cb kb (ptr (g.tb own)) x y) (hm : a.made = 200) :
    Calls Try.prog 50 #[ptr cb] w (Gives B kb w 0 2 a) := by
  have c0 := hc.c0
  have k3 := h.k3
  rw [hm] at k3
  have H := Lib.hid h
  clear h hc hm
  go_enter Try.func50, Try.ntmps50
  go_wp2
  go_ret2
  exact Gives.same H.out 0 2 _ (World.drewN_zero w).symm
set_option maxHeartbeats 1000000 in
set_option maxRecDepth 100000 in
theorem packet_ok (B kb : Nat) (g : G) (a : A) (w : World) (h : KRep B kb g a w) (cb : Nat) (own x y : Int) (hc : callAt w cb kb (ptr (g.tb own)) x y) (ho : own ∈ a.tids) (hm : 0 ≤ a.made ∧ a.made < 200) (hp : ∀ p ∈ a.pids, p ≤ a.made) (hq : ∀ j, a.owner j → ∀ p ∈ a.q j, p ≤ a.made) :
    Calls Try.prog 50 #[ptr cb] w (Gives B kb w (a.made + 1) 0 (packA a own x)) := by
  have c0 := hc.c0
  have c1 := hc.c1
  have c2 := hc.c2
  have k2 := h.k2
  have k3 := h.k3
  have kf : w.frozen? ⟨kb, 3, none⟩ = false := free_of h.ker 3
  have t0 := h.t0 ho
  have hne : (a.made == 200) = false := by simp; omega
  have hm1 : 0 ≤ a.made := hm.1
  have hm2 : a.made < 200 := hm.2
  have H := Lib.hid h
  have HC := Lib.hid hc
  have HO := Lib.hid ho
  have HP := Lib.hid hp
  have HQ := Lib.hid hq
  have hkc : kb ≠ cb := ne_obj h.ker hc (by simp)
  have hkt : kb ≠ g.tb own := ne_obj h.ker (h.task own ho) (by simp)
  clear h hc ho hm hp hq
  go_enter Try.func50, Try.ntmps50
  go_wp2
  obtain ⟨W, hW⟩ : ∃ W, W = w.setCell ⟨kb, 3, none⟩ (.int .i64 (a.made + 1)) := ⟨_, rfl⟩
  rw [← hW]
  have hT : Touch w W (fun k => k = kb) := by rw [hW]; exact Touch.setCell _ _ _ rfl
  have h1 := H.out.setKer (a.made + 1) a.calls hT (by rw [hW]; simpa using set_same H.out.ker 3 (.int .i64 (a.made + 1)))
  have hcW : callAt W cb kb (ptr (g.tb own)) x y := (hT.block _ (blt HC.out) (Ne.symm hkc)).trans HC.out
  have hbW : Bel B kb w W := H.out.belKer hT h1.ker rfl
  clear hW hT c0 c1 c2 k2 k3 t0 kf
  have c0 := hcW.c0
  have c1 := hcW.c1
  have c2 := hcW.c2
  have k2 := h1.k2
  have k3 := h1.k3
  have t0 := h1.t0 HO.out
  have H1 := Lib.hid h1
  have HCW := Lib.hid hcW
  have HBW := Lib.hid hbW
  clear h1 hcW hbW
  simp only at k2 k3 t0
  obtain ⟨C, hCd⟩ : ∃ C : World → Prop, ∀ z, C z ↔ (z.cell? ⟨cb, 0, none⟩ = some (ptr kb) ∧ z.cell? ⟨cb, 1, none⟩ = some (ptr (g.tb own)) ∧ z.cell? ⟨cb, 2, none⟩ = some (.int .i64 x) ∧ z.cell? ⟨kb, 2, none⟩ = some (.map (some g.pm)) ∧ z.cell? ⟨kb, 3, none⟩ = some (.int .i64 (a.made + 1)) ∧ z.cell? ⟨g.tb own, 0, none⟩ = some (.int .i64 own)) := ⟨_, fun _ => Iff.rfl⟩
  have s0 : ∀ s : {z : World // C z}, s.1.cell? ⟨cb, 0, none⟩ = some (ptr kb) := fun s => ((hCd s.1).1 s.2).1
  have s1 : ∀ s : {z : World // C z}, s.1.cell? ⟨cb, 1, none⟩ = some (ptr (g.tb own)) := fun s => ((hCd s.1).1 s.2).2.1
  have s2 : ∀ s : {z : World // C z}, s.1.cell? ⟨cb, 2, none⟩ = some (.int .i64 x) := fun s => ((hCd s.1).1 s.2).2.2.1
  have sk2 : ∀ s : {z : World // C z}, s.1.cell? ⟨kb, 2, none⟩ = some (.map (some g.pm)) := fun s => ((hCd s.1).1 s.2).2.2.2.1
  have sk3 : ∀ s : {z : World // C z}, s.1.cell? ⟨kb, 3, none⟩ = some (.int .i64 (a.made + 1)) := fun s => ((hCd s.1).1 s.2).2.2.2.2.1
  have st : ∀ s : {z : World // C z}, s.1.cell? ⟨g.tb own, 0, none⟩ = some (.int .i64 own) := fun s => ((hCd s.1).1 s.2).2.2.2.2.2
  haveI : Nonempty {z : World // C z} := ⟨⟨W, (hCd _).2 ⟨c0, c1, c2, k2, k3, t0⟩⟩⟩
  refine Mix.wp_region_mix C [42, 43] (by kernel_rfl) (by kernel_rfl) ((hCd _).2 ⟨c0, c1, c2, k2, k3, t0⟩) ?_
  have HCD := Lib.hid hCd
  clear hCd
  repeat (refine Mix.mix_still rfl (fun K hK => ?_); go_simp; refine hK _ ?_; clear hK K)
  refine Mix.mix_eff rfl ?_
  go_wp2
  refine ⟨(HCD.out _).2 ⟨Lib.cell?_alloc_some (W := W) _ c0, Lib.cell?_alloc_some (W := W) _ c1, Lib.cell?_alloc_some (W := W) _ c2, Lib.cell?_alloc_some (W := W) _ k2, Lib.cell?_alloc_some (W := W) _ k3, Lib.cell?_alloc_some (W := W) _ t0⟩, ?_⟩
  refine Mix.mix_eff rfl ?_
  have hni : look (a.pids.map fun i => (i, g.pb i)) (a.made + 1) = none := by
    rw [look_map, if_neg]
    intro hm
    have := HP.out _ hm
    omega
  refine wpList_put rfl _ _ _ 68 84 rfl und68 rfl rfl rfl ((H1.out.keep (w' := W.alloc _) (fun k hk => Below.heap_alloc _ _ _ hk)).pmap) hni ?_
  intro o' hmap
  go_wp2
  refine Mix.mix_nil ?_
  obtain ⟨W5, hW5⟩ : ∃ W5, W5 = setBlock ((W.alloc (.cells #[.int .i64 (a.made + 1), .int .i64 x, .int .i64 0, .int .i64 own, .int .i64 0, .int .i64 0, .int .i64 own] 44)).drew) g.pm o' := ⟨_, rfl⟩
  rw [← hW5] at hmap ⊢
  have hpl := H1.out.pmap.lt
  have hT5 : Touch W W5 (fun k => k = g.pm) := by
    rw [hW5]
    exact ((Touch.alloc W _ _).trans (Touch.drew _ _)).trans (Touch.setB _ _ _)
  have hnb : W5.heap[W.heap.size]? = some (.cells #[.int .i64 (a.made + 1), .int .i64 x, .int .i64 0, .int .i64 own, .int .i64 0, .int .i64 0, .int .i64 own] 44 (0, 0)) := by
    rw [hW5, setB_other (Nat.ne_of_gt hpl)]
    exact alloc_new W _
  have hB : B ≤ W.heap.size := Nat.le_of_lt (Nat.lt_of_le_of_lt H1.out.low.1 (blt H1.out.ker))
  have h5 := H1.out.insPack (w' := W5) (a.made + 1) W.heap.size { ty := x, res := 0, own := own, at_ := 0, frm := 0, wth := own } (fun hm => by have := HP.out _ hm; omega) (fun j hj hm => by have := HQ.out j hj _ hm; omega) (Nat.le_refl _) hB hT5 hmap (by simpa [pcells] using hnb)
  have c0 := (show callAt W5 cb kb (ptr (g.tb own)) x y from (hT5.block _ (blt HCW.out) (ne_obj HCW.out (show W.heap[g.pm]? = some (.map _ _) from H1.out.pmap.choose_spec.choose_spec.1) (by simp))).trans HCW.out).c0
  have k3 := h5.k3
  have H5 := Lib.hid h5
  have HB5 := Lib.hid (HBW.out.trans (hT5.bel hB (fun k hk => by rw [hk]; exact H1.out.okPM) H1.out.klt))
  clear hW5 hmap hT5 hnb h5 s0 s1 s2 sk2 sk3 st c1 c2 k2 t0
  simp only at k3
  go_wp2
  go_ret2
  exact ⟨rfl, HB5.out, _, H5.out⟩
/-- What device does first: the packet leaves the queue. -/
def dropA (a : A) (x p : Int) : A := { a with q := upd a.q x ((a.q x).filter fun z => z != p), pk := upd a.pk p { a.pk p with at_ := 0 } }
def resA (a : A) (p y : Int) : A := { a with pk := upd a.pk p { a.pk p with res := y } }
set_option maxHeartbeats 1000000 in
set_option maxRecDepth 100000 in
theorem device_none (B kb : Nat) (g : G) (a : A) (w : World) (h : KRep B kb g a w) (cb : Nat) (x y : Int) (v : Value) (hc : callAt w cb kb v x y) (hx : x ∉ devs) :
    Calls Try.prog 51 #[ptr cb] w (Gives B kb w 0 190 a) := by
  have c0 := hc.c0
  have c2 := hc.c2
  have c3 := hc.c3
  have k1 := h.k1
  have H := Lib.hid h
  have HC := Lib.hid hc
  have hl : ∀ n, (Instr.lookup 67 (.map (some g.dm)) (.int .i64 x) false).run Try.prog (w.drewN n) = .ok (.pointer none) (w.drewN n) := fun n => by
    have := (h.keep (w' := w.drewN n) (fun _ _ => rfl)).lookD x
    rwa [if_neg hx] at this
  clear h hc hx
  go_enter Try.func51, Try.ntmps51
  go_wp2
  go_quiet (fail)
  go_wp2
  go_ret2
  exact Gives.same H.out 0 190 _ rfl
set_option maxHeartbeats 1000000 in
set_option maxRecDepth 100000 in
theorem device_empty (B kb : Nat) (g : G) (a : A) (w : World) (h : KRep B kb g a w) (cb : Nat) (x y : Int) (v : Value) (hc : callAt w cb kb v x y) (hx : x ∈ devs) (hq : a.q x = []) :
    Calls Try.prog 51 #[ptr cb] w (Gives B kb w 0 5 a) := by
  have c0 := hc.c0
  have c2 := hc.c2
  have c3 := hc.c3
  have k1 := h.k1
  have H := Lib.hid h
  have HC := Lib.hid hc
  have hl : ∀ n, (Instr.lookup 67 (.map (some g.dm)) (.int .i64 x) false).run Try.prog (w.drewN n) = .ok (ptr (g.db x)) (w.drewN n) := fun n => by
    have := (h.keep (w' := w.drewN n) (fun _ _ => rfl)).lookD x
    rwa [if_pos hx] at this
  have hrow := h.row x (.inr hx)
  rw [hq] at hrow
  obtain ⟨va, vc, hv⟩ := own_form hrow
  have C1 := Lib.hid (fun n => first_none (w.drewN n) (g.db x) 0 va vc (by rw [cell_of (show (w.drewN n).heap[g.db x]? = _ from h.dev x hx)]; simp [hv]))
  clear h hc hx hq hrow hv
  go_enter Try.func51, Try.ntmps51
  go_wp2
  go_quiet (fail)
  go_wp2_with (go_at_call 73; (with_reducible refine (C1.out nq).mono ?_); rintro e w' ⟨rfl, rfl⟩)
  go_ret2
  exact Gives.same H.out 0 5 _ rfl
set_option maxHeartbeats 1000000 in
set_option maxRecDepth 100000 in
theorem device_gone (B kb : Nat) (g : G) (a : A) (w : World) (h : KRep B kb g a w) (cb : Nat) (x y : Int) (v : Value) (hc : callAt w cb kb v x y) (G : Good a) (hx : x ∈ devs) (p : Int) (l : List Int) (hq : a.q x = p :: l) (hf : (a.pk p).frm ∉ a.tids) :
    Calls Try.prog 51 #[ptr cb] w (Gives B kb w 0 5 (dropA a x p)) := by
  have c0 := hc.c0
  have c2 := hc.c2
  have c3 := hc.c3
  have k1 := h.k1
  have H := Lib.hid h
  have HC := Lib.hid hc
  have hl : ∀ n, (Instr.lookup 67 (.map (some g.dm)) (.int .i64 x) false).run Try.prog (w.drewN n) = .ok (ptr (g.db x)) (w.drewN n) := fun n => by
    have := (h.keep (w' := w.drewN n) (fun _ _ => rfl)).lookD x
    rwa [if_pos hx] at this
  have hrow := h.row x (.inr hx)
  obtain ⟨r, cap, hv, _, _, _, _, _, _, _, hcell⟩ := own_cell hrow (by rw [hq]; simp)
  have hx0 := hcell 0 (by rw [hq]; simp)
  rw [hq] at hx0
  simp at hx0
  have hlen := G.qlen (i := x) (.inr hx)
  have hpm := G.qin x (.inr hx) p (by rw [hq]; simp)
  have HP := Lib.hid hpm.1
  have C1 := Lib.hid (fun n => first_some (w.drewN n) (g.db x) 0 r (a.q x).length cap (ptr (g.pb p)) (by rw [hq]; simp) (by rw [cell_of (show (w.drewN n).heap[g.db x]? = _ from h.dev x hx)]; simp [hv]) hx0 (by omega))
  have C2 := Lib.hid (fun n => take_q B kb g a (w.drewN n) (h.keep (fun _ _ => rfl)) x (.inr hx) p (by rw [hq]; simp) (G.qnd x (.inr hx)) (fun z hz => (G.qin x (.inr hx) z hz).1) (by omega))
  have hhb : hblk g x = g.db x := by unfold hblk; rw [if_neg (dev_neg hx)]
  have hho : hoff x = 0 := by unfold hoff; rw [if_neg (dev_neg hx)]
  rw [hhb, hho] at C2
  have HF := Lib.hid hf
  have HX := Lib.hid hx
  have HGD := Lib.hid G
  clear h hc hx hq hrow hv hcell hx0 hpm hlen hhb hho hf G
  go_enter Try.func51, Try.ntmps51
  go_wp2
  go_quiet (fail)
  go_wp2_with (first | (go_at_call 73; (with_reducible refine (C1.out nq).mono ?_); rintro e w' ⟨rfl, rfl⟩) | (go_at_call 77; (with_reducible refine (C2.out nq).mono ?_); rintro e w1 ⟨rfl, v1, hb1, hk1, h1⟩; have HB1 := Lib.hid hb1; have HK1 := Lib.hid hk1; have H1 := Lib.hid h1; have p4 := h1.p4 HP.out; have f4 := h1.pf HP.out 4; clear hb1 hk1 h1))
  obtain ⟨W2, hW2⟩ : ∃ W2, W2 = w1.setCell ⟨g.pb p, 4, none⟩ (.int .i64 0) := ⟨_, rfl⟩
  rw [← hW2]
  have hT2 : Touch w1 W2 (fun k => k = g.pb p) := by rw [hW2]; exact Touch.setCell _ _ _ rfl
  have e2 : W2.heap[g.pb p]? = some (.cells (pcells p { a.pk p with at_ := 0 }) 44 (0, 0)) := by rw [hW2]; simpa [pcells] using set_same (H1.out.pack p HP.out) 4 (.int .i64 0)
  have h2 : KRep B kb { g with qv := upd g.qv x v1 } (dropA a x p) W2 := H1.out.setPack HP.out { a.pk p with at_ := 0 } hT2 e2
  have hc2 : callAt W2 cb kb v x y := ((hT2.keeps (fun k hk => by subst hk; exact ⟨_, H1.out.pack p HP.out, by simp [kindOf]⟩)) _ _ (HK1.out _ _ HC.out))
  have hB : B ≤ w.heap.size := Nat.le_of_lt (Nat.lt_of_le_of_lt H.out.low.1 (blt H.out.ker))
  have hbe2 : Bel B kb w W2 := ((bel_drewN (Bel.refl B kb w) nq).trans HB1.out).trans (hT2.bel (Nat.le_trans hB HB1.out.size) (fun k hk => by rw [hk]; exact H1.out.okP HP.out) H1.out.klt)
  clear hW2 hT2 e2 p4 f4 c0 c2 c3 k1 hl hB
  have c0 := hc2.c0
  have c2 := hc2.c2
  have c3 := hc2.c3
  have k0 := h2.k0
  have p5 : W2.cell? ⟨g.pb p, 5, none⟩ = some (.int .i64 (a.pk p).frm) := by have := h2.p5 HP.out; simpa [dropA, upd_same] using this
  have H2 := Lib.hid h2
  have HC2 := Lib.hid hc2
  have HB2 := Lib.hid hbe2
  have hlt : ∀ n, (Instr.lookup 66 (.map (some g.tm)) (.int .i64 (a.pk p).frm) false).run Try.prog (W2.drewN n) = .ok (.pointer none) (W2.drewN n) := fun n => by
    have := (h2.keep (w' := W2.drewN n) (fun _ _ => rfl)).lookT (a.pk p).frm
    rwa [if_neg (show (a.pk p).frm ∉ (dropA a x p).tids from HF.out)] at this
  clear h2 hc2 hbe2
  go_wp2
  go_quiet (fail)
  go_wp2
  go_ret2
  exact ⟨rfl, bel_drewN HB2.out _, _, H2.out.keep (fun _ _ => rfl)⟩
set_option maxHeartbeats 1000000 in
set_option maxRecDepth 100000 in
theorem device_ok (B kb : Nat) (g : G) (a : A) (w : World) (h : KRep B kb g a w) (cb : Nat) (x y : Int) (v : Value) (hc : callAt w cb kb v x y) (G : Good a) (hx : x ∈ devs) (p : Int) (l : List Int) (hq : a.q x = p :: l) (hf : (a.pk p).frm ∈ a.tids) (hc1 : 1 ≤ a.calls) (hc2 : a.calls ≤ 100000) :
    Calls Try.prog 51 #[ptr cb] w (Gives B kb w 0 0 (moveA (resA (dropA a x p) p y) p x (a.pk p).frm)) := by
  have c0 := hc.c0
  have c2 := hc.c2
  have c3 := hc.c3
  have k1 := h.k1
  have H := Lib.hid h
  have HC := Lib.hid hc
  have hl : ∀ n, (Instr.lookup 67 (.map (some g.dm)) (.int .i64 x) false).run Try.prog (w.drewN n) = .ok (ptr (g.db x)) (w.drewN n) := fun n => by
    have := (h.keep (w' := w.drewN n) (fun _ _ => rfl)).lookD x
    rwa [if_pos hx] at this
  have hrow := h.row x (.inr hx)
  obtain ⟨r, cap, hv, _, _, _, _, _, _, _, hcell⟩ := own_cell hrow (by rw [hq]; simp)
  have hx0 := hcell 0 (by rw [hq]; simp)
  rw [hq] at hx0
  simp at hx0
  have hlen := G.qlen (i := x) (.inr hx)
  have hpm := G.qin x (.inr hx) p (by rw [hq]; simp)
  have HP := Lib.hid hpm.1
  have C1 := Lib.hid (fun n => first_some (w.drewN n) (g.db x) 0 r (a.q x).length cap (ptr (g.pb p)) (by rw [hq]; simp) (by rw [cell_of (show (w.drewN n).heap[g.db x]? = _ from h.dev x hx)]; simp [hv]) hx0 (by omega))
  have C2 := Lib.hid (fun n => take_q B kb g a (w.drewN n) (h.keep (fun _ _ => rfl)) x (.inr hx) p (by rw [hq]; simp) (G.qnd x (.inr hx)) (fun z hz => (G.qin x (.inr hx) z hz).1) (by omega))
  have hhb : hblk g x = g.db x := by unfold hblk; rw [if_neg (dev_neg hx)]
  have hho : hoff x = 0 := by unfold hoff; rw [if_neg (dev_neg hx)]
  rw [hhb, hho] at C2
  have HF := Lib.hid hf
  have HX := Lib.hid hx
  have HGD := Lib.hid G
  clear h hc hx hq hrow hv hcell hx0 hpm hlen hhb hho hf G
  go_enter Try.func51, Try.ntmps51
  go_wp2
  go_quiet (fail)
  go_wp2_with (first | (go_at_call 73; (with_reducible refine (C1.out nq).mono ?_); rintro e w' ⟨rfl, rfl⟩) | (go_at_call 77; (with_reducible refine (C2.out nq).mono ?_); rintro e w1 ⟨rfl, v1, hb1, hk1, h1⟩; have HB1 := Lib.hid hb1; have HK1 := Lib.hid hk1; have H1 := Lib.hid h1; have p4 := h1.p4 HP.out; have f4 := h1.pf HP.out 4; clear hb1 hk1 h1))
  obtain ⟨W2, hW2⟩ : ∃ W2, W2 = w1.setCell ⟨g.pb p, 4, none⟩ (.int .i64 0) := ⟨_, rfl⟩
  rw [← hW2]
  have hT2 : Touch w1 W2 (fun k => k = g.pb p) := by rw [hW2]; exact Touch.setCell _ _ _ rfl
  have e2 : W2.heap[g.pb p]? = some (.cells (pcells p { a.pk p with at_ := 0 }) 44 (0, 0)) := by rw [hW2]; simpa [pcells] using set_same (H1.out.pack p HP.out) 4 (.int .i64 0)
  have h2 : KRep B kb { g with qv := upd g.qv x v1 } (dropA a x p) W2 := H1.out.setPack HP.out { a.pk p with at_ := 0 } hT2 e2
  have hc2 : callAt W2 cb kb v x y := ((hT2.keeps (fun k hk => by subst hk; exact ⟨_, H1.out.pack p HP.out, by simp [kindOf]⟩)) _ _ (HK1.out _ _ HC.out))
  have hB : B ≤ w.heap.size := Nat.le_of_lt (Nat.lt_of_le_of_lt H.out.low.1 (blt H.out.ker))
  have hbe2 : Bel B kb w W2 := ((bel_drewN (Bel.refl B kb w) nq).trans HB1.out).trans (hT2.bel (Nat.le_trans hB HB1.out.size) (fun k hk => by rw [hk]; exact H1.out.okP HP.out) H1.out.klt)
  clear hW2 hT2 e2 p4 f4 c0 c2 c3 k1 hl hB
  have c0 := hc2.c0
  have c2 := hc2.c2
  have c3 := hc2.c3
  have k0 := h2.k0
  have p5 : W2.cell? ⟨g.pb p, 5, none⟩ = some (.int .i64 (a.pk p).frm) := by have := h2.p5 HP.out; simpa [dropA, upd_same] using this
  have H2 := Lib.hid h2
  have HC2 := Lib.hid hc2
  have HB2 := Lib.hid hbe2
  have hlt : ∀ n, (Instr.lookup 66 (.map (some g.tm)) (.int .i64 (a.pk p).frm) false).run Try.prog (W2.drewN n) = .ok (ptr (g.tb (a.pk p).frm)) (W2.drewN n) := fun n => by
    have := (h2.keep (w' := W2.drewN n) (fun _ _ => rfl)).lookT (a.pk p).frm
    rwa [if_pos (show (a.pk p).frm ∈ (dropA a x p).tids from HF.out)] at this
  clear h2 hc2 hbe2
  have p2 := H2.out.p2 HP.out
  have f2 := H2.out.pf HP.out 2
  go_wp2
  go_quiet (fail)
  go_wp2
  obtain ⟨W3, hW3⟩ : ∃ W3, W3 = (W2.drewN nq).setCell ⟨g.pb p, 2, none⟩ (.int .i64 y) := ⟨_, rfl⟩
  rw [← hW3]
  have h20 := H2.out.keep (w' := W2.drewN nq) (fun _ _ => rfl)
  have hT3 : Touch (W2.drewN nq) W3 (fun k => k = g.pb p) := by rw [hW3]; exact Touch.setCell _ _ _ rfl
  have e3 : W3.heap[g.pb p]? = some (.cells (pcells p { (dropA a x p).pk p with res := y }) 44 (0, 0)) := by rw [hW3]; simpa [pcells] using set_same (h20.pack p HP.out) 2 (.int .i64 y)
  have h3 : KRep B kb { g with qv := upd g.qv x v1 } (resA (dropA a x p) p y) W3 := h20.setPack HP.out { (dropA a x p).pk p with res := y } hT3 e3
  have hc3 : callAt W3 cb kb v x y := ((hT3.keeps (fun k hk => by subst hk; exact ⟨_, h20.pack p HP.out, by simp [kindOf]⟩)) _ _ (show callAt (W2.drewN nq) cb kb v x y from HC2.out))
  have hB : B ≤ w.heap.size := Nat.le_of_lt (Nat.lt_of_le_of_lt H.out.low.1 (blt H.out.ker))
  have hbe3 : Bel B kb w W3 := (bel_drewN HB2.out nq).trans (hT3.bel (Nat.le_trans hB HB2.out.size) (fun k hk => by rw [hk]; exact h20.okP HP.out) h20.klt)
  clear hW3 hT3 e3 c0 c2 p5 p2 f2 h20
  have c0 := hc3.c0
  have c2 := hc3.c2
  have p5 : W3.cell? ⟨g.pb p, 5, none⟩ = some (.int .i64 (a.pk p).frm) := by have := h3.p5 HP.out; simpa [resA, dropA, upd_same] using this
  have H3 := Lib.hid h3
  have HB3 := Lib.hid hbe3
  have hqf : (upd a.q x ((a.q x).filter fun z => z != p) (a.pk p).frm).length ≤ 100000 := by
    rw [upd_other _ _ (fun (e : (a.pk p).frm = x) => dev_neg HX.out (by rw [← e]; exact H.out.tpos _ HF.out))]
    have := HGD.out.qlen (i := (a.pk p).frm) (.inl HF.out)
    omega
  have HQF := Lib.hid hqf
  have HMC := Lib.hid HGD.out.mcalls
  have C3 := Lib.hid (fun W (hk : KRep B kb { g with qv := upd g.qv x v1 } (resA (dropA a x p) p y) W) => move_any B kb { g with qv := upd g.qv x v1 } (resA (dropA a x p) p y) W hk p x (a.pk p).frm HP.out (.inl HF.out) HQF.out (show a.moves.length ≤ 100000 by have := HMC.out; omega) hc1 (show a.calls ≤ 1000000 by omega))
  clear h3 hbe3 hc3 hqf hB c3
  obtain ⟨C, hCd⟩ : ∃ C : World → Prop, ∀ z, C z ↔ (z.cell? ⟨cb, 0, none⟩ = some (ptr kb) ∧ z.cell? ⟨cb, 2, none⟩ = some (.int .i64 x) ∧ z.cell? ⟨g.pb p, 5, none⟩ = some (.int .i64 (a.pk p).frm)) := ⟨_, fun _ => Iff.rfl⟩
  have s0 : ∀ s : {z : World // C z}, s.1.cell? ⟨cb, 0, none⟩ = some (ptr kb) := fun s => ((hCd s.1).1 s.2).1
  have s2 : ∀ s : {z : World // C z}, s.1.cell? ⟨cb, 2, none⟩ = some (.int .i64 x) := fun s => ((hCd s.1).1 s.2).2.1
  have s5 : ∀ s : {z : World // C z}, s.1.cell? ⟨g.pb p, 5, none⟩ = some (.int .i64 (a.pk p).frm) := fun s => ((hCd s.1).1 s.2).2.2
  haveI : Nonempty {z : World // C z} := ⟨⟨W3, (hCd _).2 ⟨c0, c2, p5⟩⟩⟩
  refine Mix.wp_region_mix C [13] (by kernel_rfl) (by kernel_rfl) ((hCd _).2 ⟨c0, c2, p5⟩) ?_
  have HCD := Lib.hid hCd
  clear hCd
  repeat (refine Mix.mix_still rfl (fun K hK => ?_); go_simp; refine hK _ ?_; clear hK K)
  refine Mix.mix_eff rfl ?_
  go_wp2_with (go_at_call 72; (with_reducible refine (C3.out _ ?hk).mono ?_); (case hk => exact H3.out.keep (fun _ _ => rfl)); rintro e w5 ⟨rfl, qv, hb5, hk5⟩; have HB5 := Lib.hid hb5; have HK5 := Lib.hid hk5; clear hb5 hk5)
  refine Mix.mix_nil ?_
  go_wp2
  go_ret2
  exact ⟨rfl, HB3.out.trans ⟨HB5.out.os, HB5.out.tape, HB5.out.output, HB5.out.size, HB5.out.block, HB5.out.off, HB5.out.held⟩, _, HK5.out⟩
end Go.Proofs.Ytkmgbnklfnjfjaa.Ker
