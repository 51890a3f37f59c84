import Derived.Test.YtkmgbnklfnjfjaaKM
/-! Contracts: wait, fetch, held, set, test. -/
namespace Go.Proofs.Ytkmgbnklfnjfjaa.Ker
open Go.RowKit Go.Maps
open Go.ChangeMaps (setBlock)

set_option maxHeartbeats 1000000 in
set_option maxRecDepth 100000 in
theorem wait_none (B kb : Nat) (g : G) (a : A) (w : World) (h : KRep B kb g a w) (cb : Nat) (own x y : Int) (hc : callAt w cb kb (ptr (g.tb own)) x y) (hx : x ∉ a.pids) :
    Calls Try.prog 52 #[ptr cb] w (Gives B kb w 0 191 a) := by
  have c0 := hc.c0
  have c1 := hc.c1
  have c2 := hc.c2
  have c3 := hc.c3
  have k2 := h.k2
  have H := Lib.hid h
  have hl : ∀ n, (Instr.lookup 68 (.map (some g.pm)) (.int .i64 x) false).run Try.prog (w.drewN n) = .ok (.pointer none) (w.drewN n) := fun n => by
    have := (h.keep (w' := w.drewN n) (fun _ _ => rfl)).lookP x
    rwa [if_neg hx] at this
  clear h hc hx
  go_enter Try.func52, Try.ntmps52
  go_wp2
  go_quiet (fail)
  go_wp2
  go_quiet (fail)
  go_wp2
  go_ret2
  exact Gives.same H.out 0 191 _ (World.drewN_drewN _ _ _)
set_option maxHeartbeats 1000000 in
set_option maxRecDepth 100000 in
theorem wait_mine (B kb : Nat) (g : G) (a : A) (w : World) (h : KRep B kb g a w) (cb : Nat) (own x y : Int) (hc : callAt w cb kb (ptr (g.tb own)) x y) (ho : own ∈ a.tids) (hx : x ∈ a.pids) (hw : (a.pk x).wth = own) :
    Calls Try.prog 52 #[ptr cb] w (Gives B kb w 0 191 a) := by
  have c0 := hc.c0
  have c1 := hc.c1
  have c2 := hc.c2
  have c3 := hc.c3
  have k2 := h.k2
  have t0 := h.t0 ho
  have p6 := h.p6 hx
  have p4 := h.p4 hx
  have p5 := h.p5 hx
  have p0 := h.p0 hx
  have H := Lib.hid h
  have HC := Lib.hid hc
  have HO := Lib.hid ho
  have HX := Lib.hid hx
  have hl : ∀ n, (Instr.lookup 68 (.map (some g.pm)) (.int .i64 x) false).run Try.prog (w.drewN n) = .ok (ptr (g.pb x)) (w.drewN n) := fun n => by
    have := (h.keep (w' := w.drewN n) (fun _ _ => rfl)).lookP x
    rwa [if_pos hx] at this
  rw [hw] at p6
  clear h hc hx ho hw
  go_enter Try.func52, Try.ntmps52
  go_wp2
  go_quiet (fail)
  go_wp2
  go_quiet (fail)
  go_wp2
  go_ret2
  exact Gives.same H.out 0 191 _ (World.drewN_drewN _ _ _)
set_option maxHeartbeats 1000000 in
set_option maxRecDepth 100000 in
theorem wait_here (B kb : Nat) (g : G) (a : A) (w : World) (h : KRep B kb g a w) (cb : Nat) (own x y : Int) (hc : callAt w cb kb (ptr (g.tb own)) x y) (G : Good a) (ho : own ∈ a.tids) (hx : x ∈ a.pids) (hw : (a.pk x).wth ≠ own) (ha : (a.pk x).at_ = own) :
    Calls Try.prog 52 #[ptr cb] w (Gives B kb w x 0 (ownA a x own)) := by
  have c0 := hc.c0
  have c1 := hc.c1
  have c2 := hc.c2
  have c3 := hc.c3
  have k2 := h.k2
  have t0 := h.t0 ho
  have p6 := h.p6 hx
  have p4 := h.p4 hx
  have p5 := h.p5 hx
  have p0 := h.p0 hx
  have H := Lib.hid h
  have HC := Lib.hid hc
  have HO := Lib.hid ho
  have HX := Lib.hid hx
  have hl : ∀ n, (Instr.lookup 68 (.map (some g.pm)) (.int .i64 x) false).run Try.prog (w.drewN n) = .ok (ptr (g.pb x)) (w.drewN n) := fun n => by
    have := (h.keep (w' := w.drewN n) (fun _ _ => rfl)).lookP x
    rwa [if_pos hx] at this
  rw [ha] at p4
  have hne : ((a.pk x).wth == own) = false := by simpa using hw
  have HG := Lib.hid G
  have HA := Lib.hid (show (a.pk x).at_ ≠ 0 by rw [ha]; have := G.trng own ho; omega)
  clear h hc hx ho hw ha G
  go_enter Try.func52, Try.ntmps52
  go_wp2
  go_quiet (fail)
  go_wp2
  go_quiet (fail)
  go_wp2
  go_quiet (fail)
  go_wp2_with (go_at_call 75; (with_reducible refine (own_good B kb g a _ ?hk HG.out cb own x y ?hc HO.out x HX.out HA.out).mono ?_); (case hk => exact H.out.keep (fun _ _ => rfl)); (case hc => exact HC.out); rintro e w1 ⟨rfl, qv, hb1, hk1⟩; have HB1 := Lib.hid hb1; have HK1 := Lib.hid hk1; clear hb1 hk1)
  go_ret2
  exact ⟨rfl, (Bel.refl B kb w).trans ⟨HB1.out.os, HB1.out.tape, HB1.out.output, HB1.out.size, HB1.out.block, HB1.out.off, HB1.out.held⟩, _, HK1.out⟩
set_option maxHeartbeats 1000000 in
set_option maxRecDepth 100000 in
theorem wait_rest (B kb : Nat) (g : G) (a : A) (w : World) (h : KRep B kb g a w) (cb : Nat) (own x y : Int) (hc : callAt w cb kb (ptr (g.tb own)) x y) (ho : own ∈ a.tids) (hx : x ∈ a.pids) (hw : (a.pk x).wth ≠ own) (ha : (a.pk x).at_ ≠ own) :
    Calls Try.prog 52 #[ptr cb] w (Gives B kb w 0 0 (restA a own x)) := by
  have c0 := hc.c0
  have c1 := hc.c1
  have c2 := hc.c2
  have c3 := hc.c3
  have k2 := h.k2
  have t0 := h.t0 ho
  have p6 := h.p6 hx
  have p4 := h.p4 hx
  have p5 := h.p5 hx
  have p0 := h.p0 hx
  have H := Lib.hid h
  have HC := Lib.hid hc
  have HO := Lib.hid ho
  have HX := Lib.hid hx
  have hl : ∀ n, (Instr.lookup 68 (.map (some g.pm)) (.int .i64 x) false).run Try.prog (w.drewN n) = .ok (ptr (g.pb x)) (w.drewN n) := fun n => by
    have := (h.keep (w' := w.drewN n) (fun _ _ => rfl)).lookP x
    rwa [if_pos hx] at this
  have hne : ((a.pk x).wth == own) = false := by simpa using hw
  have hna : ((a.pk x).at_ == own) = false := by simpa using ha
  clear h hc hx ho hw ha
  go_enter Try.func52, Try.ntmps52
  go_wp2
  go_quiet (fail)
  go_wp2
  go_quiet (fail)
  go_wp2
  go_quiet (fail)
  go_wp2_with (go_at_call 74; (with_reducible refine (rest_any B kb g a _ ?hk cb own x y ?hc HO.out x).mono ?_); (case hk => exact H.out.keep (fun _ _ => rfl)); (case hc => exact HC.out); rintro e w1 ⟨rfl, hb1, hk1⟩; have HB1 := Lib.hid hb1; have HK1 := Lib.hid hk1; clear hb1 hk1)
  go_ret2
  exact ⟨rfl, (Bel.refl B kb w).trans ⟨HB1.out.os, HB1.out.tape, HB1.out.output, HB1.out.size, HB1.out.block, HB1.out.off, HB1.out.held⟩, _, HK1.out⟩
set_option maxHeartbeats 1000000 in
set_option maxRecDepth 100000 in
theorem fetch_none (B kb : Nat) (g : G) (a : A) (w : World) (h : KRep B kb g a w) (cb : Nat) (own x y : Int) (hc : callAt w cb kb (ptr (g.tb own)) x y) (hx : x ∉ a.pids) :
    Calls Try.prog 49 #[ptr cb] w (Gives B kb w 0 191 a) := by
  have c0 := hc.c0
  have c1 := hc.c1
  have c2 := hc.c2
  have c3 := hc.c3
  have k2 := h.k2
  have H := Lib.hid h
  have hl : ∀ n, (Instr.lookup 68 (.map (some g.pm)) (.int .i64 x) false).run Try.prog (w.drewN n) = .ok (.pointer none) (w.drewN n) := fun n => by
    have := (h.keep (w' := w.drewN n) (fun _ _ => rfl)).lookP x
    rwa [if_neg hx] at this
  clear h hc hx
  go_enter Try.func49, Try.ntmps49
  go_wp2
  go_quiet (fail)
  go_wp2
  go_quiet (fail)
  go_wp2
  go_ret2
  exact Gives.same H.out 0 191 _ (World.drewN_drewN _ _ _)
set_option maxHeartbeats 1000000 in
set_option maxRecDepth 100000 in
theorem fetch_out (B kb : Nat) (g : G) (a : A) (w : World) (h : KRep B kb g a w) (cb : Nat) (own x y : Int) (hc : callAt w cb kb (ptr (g.tb own)) x y) (ho : own ∈ a.tids) (hx : x ∈ a.pids) (hw : (a.pk x).at_ = 0) :
    Calls Try.prog 49 #[ptr cb] w (Gives B kb w 0 191 a) := by
  have c0 := hc.c0
  have c1 := hc.c1
  have c2 := hc.c2
  have c3 := hc.c3
  have k2 := h.k2
  have t0 := h.t0 ho
  have p6 := h.p6 hx
  have p4 := h.p4 hx
  have p5 := h.p5 hx
  have p0 := h.p0 hx
  have H := Lib.hid h
  have HC := Lib.hid hc
  have HO := Lib.hid ho
  have HX := Lib.hid hx
  have hl : ∀ n, (Instr.lookup 68 (.map (some g.pm)) (.int .i64 x) false).run Try.prog (w.drewN n) = .ok (ptr (g.pb x)) (w.drewN n) := fun n => by
    have := (h.keep (w' := w.drewN n) (fun _ _ => rfl)).lookP x
    rwa [if_pos hx] at this
  rw [hw] at p4
  clear h hc hx ho hw
  go_enter Try.func49, Try.ntmps49
  go_wp2
  go_quiet (fail)
  go_wp2
  go_quiet (fail)
  go_wp2
  go_ret2
  exact Gives.same H.out 0 191 _ (World.drewN_drewN _ _ _)
set_option maxHeartbeats 1000000 in
set_option maxRecDepth 100000 in
theorem fetch_other (B kb : Nat) (g : G) (a : A) (w : World) (h : KRep B kb g a w) (cb : Nat) (own x y : Int) (hc : callAt w cb kb (ptr (g.tb own)) x y) (ho : own ∈ a.tids) (hx : x ∈ a.pids) (hw : (a.pk x).at_ ≠ 0) (hf : (a.pk x).frm ≠ own) :
    Calls Try.prog 49 #[ptr cb] w (Gives B kb w 0 191 a) := by
  have c0 := hc.c0
  have c1 := hc.c1
  have c2 := hc.c2
  have c3 := hc.c3
  have k2 := h.k2
  have t0 := h.t0 ho
  have p6 := h.p6 hx
  have p4 := h.p4 hx
  have p5 := h.p5 hx
  have p0 := h.p0 hx
  have H := Lib.hid h
  have HC := Lib.hid hc
  have HO := Lib.hid ho
  have HX := Lib.hid hx
  have hl : ∀ n, (Instr.lookup 68 (.map (some g.pm)) (.int .i64 x) false).run Try.prog (w.drewN n) = .ok (ptr (g.pb x)) (w.drewN n) := fun n => by
    have := (h.keep (w' := w.drewN n) (fun _ _ => rfl)).lookP x
    rwa [if_pos hx] at this
  have hn0 : ((a.pk x).at_ == 0) = false := by simpa using hw
  have hnf : ((a.pk x).frm != own) = true := by simpa using hf
  clear h hc hx ho hw hf
  go_enter Try.func49, Try.ntmps49
  go_wp2
  go_quiet (fail)
  go_wp2
  go_quiet (fail)
  go_wp2
  go_ret2
  exact Gives.same H.out 0 191 _ (World.drewN_drewN _ _ _)
set_option maxHeartbeats 1000000 in
set_option maxRecDepth 100000 in
theorem fetch_ok (B kb : Nat) (g : G) (a : A) (w : World) (h : KRep B kb g a w) (cb : Nat) (own x y : Int) (hc : callAt w cb kb (ptr (g.tb own)) x y) (G : Good a) (ho : own ∈ a.tids) (hx : x ∈ a.pids) (hw : (a.pk x).at_ ≠ 0) (hf : (a.pk x).frm = own) :
    Calls Try.prog 49 #[ptr cb] w (Gives B kb w 0 0 (ownA a x own)) := by
  have c0 := hc.c0
  have c1 := hc.c1
  have c2 := hc.c2
  have c3 := hc.c3
  have k2 := h.k2
  have t0 := h.t0 ho
  have p6 := h.p6 hx
  have p4 := h.p4 hx
  have p5 := h.p5 hx
  have p0 := h.p0 hx
  have H := Lib.hid h
  have HC := Lib.hid hc
  have HO := Lib.hid ho
  have HX := Lib.hid hx
  have hl : ∀ n, (Instr.lookup 68 (.map (some g.pm)) (.int .i64 x) false).run Try.prog (w.drewN n) = .ok (ptr (g.pb x)) (w.drewN n) := fun n => by
    have := (h.keep (w' := w.drewN n) (fun _ _ => rfl)).lookP x
    rwa [if_pos hx] at this
  rw [hf] at p5
  have hn0 : ((a.pk x).at_ == 0) = false := by simpa using hw
  have HG := Lib.hid G
  have HA := Lib.hid hw
  clear h hc hx ho hw hf G
  go_enter Try.func49, Try.ntmps49
  go_wp2
  go_quiet (fail)
  go_wp2
  go_quiet (fail)
  go_wp2_with (go_at_call 75; (with_reducible refine (own_good B kb g a _ ?hk HG.out cb own x y ?hc HO.out x HX.out HA.out).mono ?_); (case hk => exact H.out.keep (fun _ _ => rfl)); (case hc => exact HC.out); rintro e w1 ⟨rfl, qv, hb1, hk1⟩; have HB1 := Lib.hid hb1; have HK1 := Lib.hid hk1; clear hb1 hk1)
  go_ret2
  exact ⟨rfl, (Bel.refl B kb w).trans ⟨HB1.out.os, HB1.out.tape, HB1.out.output, HB1.out.size, HB1.out.block, HB1.out.off, HB1.out.held⟩, _, HK1.out⟩
/-- What held does. -/
def heldA (a : A) (x : Int) (is : Bool) : A := { a with tk := upd a.tk x { a.tk x with held := is } }
set_option maxHeartbeats 1000000 in
set_option maxRecDepth 100000 in
theorem held_none (B kb : Nat) (g : G) (a : A) (w : World) (h : KRep B kb g a w) (cb : Nat) (x y : Int) (v : Value) (hc : callAt w cb kb v x y) (is : Bool) (hx : x ∉ a.tids) :
    Calls Try.prog 76 #[ptr cb, .bool is] w (Gives B kb w 0 190 a) := by
  have c0 := hc.c0
  have c2 := hc.c2
  have k0 := h.k0
  have H := Lib.hid h
  have hl : ∀ n, (Instr.lookup 66 (.map (some g.tm)) (.int .i64 x) false).run Try.prog (w.drewN n) = .ok (.pointer none) (w.drewN n) := fun n => by
    have := (h.keep (w' := w.drewN n) (fun _ _ => rfl)).lookT x
    rwa [if_neg hx] at this
  clear h hc hx
  go_enter Try.func76, Try.ntmps76
  go_wp2
  go_quiet (fail)
  go_wp2
  go_ret2
  exact Gives.same H.out 0 190 _ rfl
set_option maxHeartbeats 1000000 in
set_option maxRecDepth 100000 in
theorem held_ok (B kb : Nat) (g : G) (a : A) (w : World) (h : KRep B kb g a w) (cb : Nat) (x y : Int) (v : Value) (hc : callAt w cb kb v x y) (is : Bool) (hx : x ∈ a.tids) :
    Calls Try.prog 76 #[ptr cb, .bool is] w (Gives B kb w 0 0 (heldA a x is)) := by
  have c0 := hc.c0
  have c2 := hc.c2
  have k0 := h.k0
  have t2 := h.t2 hx
  have f2 := h.tf hx 2
  have H := Lib.hid h
  have HX := Lib.hid hx
  have hl : ∀ n, (Instr.lookup 66 (.map (some g.tm)) (.int .i64 x) false).run Try.prog (w.drewN n) = .ok (ptr (g.tb x)) (w.drewN n) := fun n => by
    have := (h.keep (w' := w.drewN n) (fun _ _ => rfl)).lookT x
    rwa [if_pos hx] at this
  clear h hc hx
  go_enter Try.func76, Try.ntmps76
  go_wp2
  go_quiet (fail)
  go_wp2
  go_ret2
  have h1 := H.out.keep (w' := w.drewN nq) (fun _ _ => rfl)
  have e1 := set_same (h1.task x HX.out) 2 (.bool is)
  exact ⟨rfl, (bel_drewN (Bel.refl _ _ _) _).setCell ((H.out.okT HX.out).drewN nq) _, _, h1.setTask HX.out { a.tk x with held := is } (Touch.setCell _ _ _ (S := fun k => k = g.tb x) rfl) (by simpa [tcells] using e1)⟩
set_option maxHeartbeats 1000000 in
set_option maxRecDepth 100000 in
theorem hold_none (B kb : Nat) (g : G) (a : A) (w : World) (h : KRep B kb g a w) (cb : Nat) (x y : Int) (v : Value) (hc : callAt w cb kb v x y) (hx : x ∉ a.tids) :
    Calls Try.prog 44 #[ptr cb] w (Gives B kb w 0 190 a) := by
  have C1 := Lib.hid (held_none B kb g a w h cb x y v hc true hx)
  clear h hc hx
  go_enter Try.func44, Try.ntmps44
  go_wp2_with (go_at_call 76; (with_reducible refine C1.out.mono ?_); rintro e w1 ⟨rfl, hb1, hk1⟩; have HB1 := Lib.hid hb1; have HK1 := Lib.hid hk1; clear hb1 hk1)
  go_ret2
  exact ⟨rfl, HB1.out, HK1.out⟩
set_option maxHeartbeats 1000000 in
set_option maxRecDepth 100000 in
theorem hold_ok (B kb : Nat) (g : G) (a : A) (w : World) (h : KRep B kb g a w) (cb : Nat) (x y : Int) (v : Value) (hc : callAt w cb kb v x y) (hx : x ∈ a.tids) :
    Calls Try.prog 44 #[ptr cb] w (Gives B kb w 0 0 (heldA a x true)) := by
  have C1 := Lib.hid (held_ok B kb g a w h cb x y v hc true hx)
  clear h hc hx
  go_enter Try.func44, Try.ntmps44
  go_wp2_with (go_at_call 76; (with_reducible refine C1.out.mono ?_); rintro e w1 ⟨rfl, hb1, hk1⟩; have HB1 := Lib.hid hb1; have HK1 := Lib.hid hk1; clear hb1 hk1)
  go_ret2
  exact ⟨rfl, HB1.out, HK1.out⟩
set_option maxHeartbeats 1000000 in
set_option maxRecDepth 100000 in
theorem release_none (B kb : Nat) (g : G) (a : A) (w : World) (h : KRep B kb g a w) (cb : Nat) (x y : Int) (v : Value) (hc : callAt w cb kb v x y) (hx : x ∉ a.tids) :
    Calls Try.prog 45 #[ptr cb] w (Gives B kb w 0 190 a) := by
  have C1 := Lib.hid (held_none B kb g a w h cb x y v hc false hx)
  clear h hc hx
  go_enter Try.func45, Try.ntmps45
  go_wp2_with (go_at_call 76; (with_reducible refine C1.out.mono ?_); rintro e w1 ⟨rfl, hb1, hk1⟩; have HB1 := Lib.hid hb1; have HK1 := Lib.hid hk1; clear hb1 hk1)
  go_ret2
  exact ⟨rfl, HB1.out, HK1.out⟩
set_option maxHeartbeats 1000000 in
set_option maxRecDepth 100000 in
theorem release_ok (B kb : Nat) (g : G) (a : A) (w : World) (h : KRep B kb g a w) (cb : Nat) (x y : Int) (v : Value) (hc : callAt w cb kb v x y) (hx : x ∈ a.tids) :
    Calls Try.prog 45 #[ptr cb] w (Gives B kb w 0 0 (heldA a x false)) := by
  have C1 := Lib.hid (held_ok B kb g a w h cb x y v hc false hx)
  clear h hc hx
  go_enter Try.func45, Try.ntmps45
  go_wp2_with (go_at_call 76; (with_reducible refine C1.out.mono ?_); rintro e w1 ⟨rfl, hb1, hk1⟩; have HB1 := Lib.hid hb1; have HK1 := Lib.hid hk1; clear hb1 hk1)
  go_ret2
  exact ⟨rfl, HB1.out, HK1.out⟩
/-- What set does. -/
def setA (a : A) (x y : Int) : A := { a with tk := upd a.tk x { a.tk x with flags := bits .or .i64 (a.tk x).flags y, waiting := false, forr := 0 } }
set_option maxHeartbeats 1000000 in
set_option maxRecDepth 100000 in
theorem set_none (B kb : Nat) (g : G) (a : A) (w : World) (h : KRep B kb g a w) (cb : Nat) (x y : Int) (v : Value) (hc : callAt w cb kb v x y) (hx : x ∉ a.tids) :
    Calls Try.prog 46 #[ptr cb] w (Gives B kb w 0 190 a) := by
  have c0 := hc.c0
  have c2 := hc.c2
  have k0 := h.k0
  have H := Lib.hid h
  have hl : ∀ n, (Instr.lookup 66 (.map (some g.tm)) (.int .i64 x) false).run Try.prog (w.drewN n) = .ok (.pointer none) (w.drewN n) := fun n => by
    have := (h.keep (w' := w.drewN n) (fun _ _ => rfl)).lookT x
    rwa [if_neg hx] at this
  clear h hc hx
  go_enter Try.func46, Try.ntmps46
  go_wp2
  go_quiet (fail)
  go_wp2
  go_ret2
  exact Gives.same H.out 0 190 _ rfl
set_option maxHeartbeats 1000000 in
set_option maxRecDepth 100000 in
theorem set_range (B kb : Nat) (g : G) (a : A) (w : World) (h : KRep B kb g a w) (cb : Nat) (x y : Int) (v : Value) (hc : callAt w cb kb v x y) (hx : x ∈ a.tids) (hy : y < 0 ∨ 65535 < y) :
    Calls Try.prog 46 #[ptr cb] w (Gives B kb w 0 1 a) := by
  have c0 := hc.c0
  have c2 := hc.c2
  have c3 := hc.c3
  have k0 := h.k0
  have H := Lib.hid h
  have hl : ∀ n, (Instr.lookup 66 (.map (some g.tm)) (.int .i64 x) false).run Try.prog (w.drewN n) = .ok (ptr (g.tb x)) (w.drewN n) := fun n => by
    have := (h.keep (w' := w.drewN n) (fun _ _ => rfl)).lookT x
    rwa [if_pos hx] at this
  clear h hc hx
  by_cases h0 : y < 0
  · have hd : decide (y < 0) = true := by simpa using h0
    clear hy h0
    go_enter Try.func46, Try.ntmps46
    go_wp2
    go_quiet (fail)
    go_wp2
    go_ret2
    exact Gives.same H.out 0 1 _ rfl
  · have hd : decide (y < 0) = false := by simpa using h0
    have hd2 : decide (65535 < y) = true := by simpa using hy.resolve_left h0
    clear hy h0
    go_enter Try.func46, Try.ntmps46
    go_wp2
    go_quiet (fail)
    go_wp2
    go_ret2
    exact Gives.same H.out 0 1 _ rfl
set_option maxHeartbeats 1000000 in
set_option maxRecDepth 100000 in
theorem set_ok (B kb : Nat) (g : G) (a : A) (w : World) (h : KRep B kb g a w) (cb : Nat) (x y : Int) (v : Value) (hc : callAt w cb kb v x y) (hx : x ∈ a.tids) (hy : 0 ≤ y ∧ y ≤ 65535) :
    Calls Try.prog 46 #[ptr cb] w (Gives B kb w 0 0 (setA a x y)) := by
  have c0 := hc.c0
  have c2 := hc.c2
  have c3 := hc.c3
  have k0 := h.k0
  have t5 := h.t5 hx
  have t3 := h.t3 hx
  have t4 := h.t4 hx
  have f5 := h.tf hx 5
  have f3 := h.tf hx 3
  have f4 := h.tf hx 4
  have H := Lib.hid h
  have HX := Lib.hid hx
  have hl : ∀ n, (Instr.lookup 66 (.map (some g.tm)) (.int .i64 x) false).run Try.prog (w.drewN n) = .ok (ptr (g.tb x)) (w.drewN n) := fun n => by
    have := (h.keep (w' := w.drewN n) (fun _ _ => rfl)).lookT x
    rwa [if_pos hx] at this
  clear h hc hx
  have hd : decide (y < 0) = false := by simpa using hy.1
  have hd2 : decide (65535 < y) = false := by simpa using hy.2
  clear hy
  go_enter Try.func46, Try.ntmps46
  go_wp2
  go_quiet (fail)
  go_wp2
  obtain ⟨C, hCd⟩ : ∃ C : World → Prop, ∀ z, C z ↔ (z.cell? ⟨g.tb x, 5, none⟩ = some (.int .i64 (a.tk x).flags) ∧ z.cell? ⟨cb, 3, none⟩ = some (.int .i64 y)) := ⟨_, fun _ => Iff.rfl⟩
  have s5 : ∀ s : {z : World // C z}, s.1.cell? ⟨g.tb x, 5, none⟩ = some (.int .i64 (a.tk x).flags) := fun s => ((hCd s.1).1 s.2).1
  have sc : ∀ s : {z : World // C z}, s.1.cell? ⟨cb, 3, none⟩ = some (.int .i64 y) := fun s => ((hCd s.1).1 s.2).2
  haveI : Nonempty {z : World // C z} := ⟨⟨w, (hCd _).2 ⟨t5, c3⟩⟩⟩
  refine Mix.wp_region_mix C [13] (by kernel_rfl) (by kernel_rfl) ((hCd _).2 ⟨t5, c3⟩) ?_
  have HCD := Lib.hid hCd
  clear hCd
  repeat (refine Mix.mix_still rfl (fun K hK => ?_); go_simp; refine hK _ ?_; clear hK K)
  refine Mix.mix_eff rfl ?_
  go_wp2
  refine Mix.mix_nil ?_
  go_wp2
  go_ret2
  have h1 := H.out.keep (w' := w.drewN (nq + 1)) (fun _ _ => rfl)
  have e1 := set_same (set_same (set_same (h1.task x HX.out) 5 (.int .i64 (bits .or .i64 (a.tk x).flags y))) 3 (.bool false)) 4 (.int .i64 0)
  have hl := H.out.okT HX.out
  have hl : Ok B kb (w.drewN (nq + 1)) (g.tb x) := hl.drewN (nq + 1)
  exact ⟨rfl, ((((bel_drewN (Bel.refl _ _ _) _).setCell hl _).setCell hl.set _).setCell hl.set.set _), _, h1.setTask HX.out { a.tk x with flags := bits .or .i64 (a.tk x).flags y, waiting := false, forr := 0 } (((Touch.setCell _ _ _ (S := fun k => k = g.tb x) rfl).trans (Touch.setCell _ _ _ rfl)).trans (Touch.setCell _ _ _ rfl)) (by simpa [tcells] using e1)⟩
/-- What test does. -/
def testA (a : A) (own x : Int) : A := { a with tk := upd a.tk own { a.tk own with flags := bits .andNot .i64 (a.tk own).flags x } }
set_option maxHeartbeats 1000000 in
set_option maxRecDepth 100000 in
theorem test_lo (B kb : Nat) (g : G) (a : A) (w : World) (h : KRep B kb g a w) (cb : Nat) (own x y : Int) (hc : callAt w cb kb (ptr (g.tb own)) x y) (hy : x < 0) :
    Calls Try.prog 47 #[ptr cb] w (Gives B kb w 0 1 a) := by
  have c2 := hc.c2
  have H := Lib.hid h
  clear h hc
  have hd : decide (x < 0) = true := by simp; omega
  clear hy
  go_enter Try.func47, Try.ntmps47
  go_wp2
  go_ret2
  exact Gives.same H.out 0 1 _ (World.drewN_zero w).symm
set_option maxHeartbeats 1000000 in
set_option maxRecDepth 100000 in
theorem test_hi (B kb : Nat) (g : G) (a : A) (w : World) (h : KRep B kb g a w) (cb : Nat) (own x y : Int) (hc : callAt w cb kb (ptr (g.tb own)) x y) (hy : 65535 < x) :
    Calls Try.prog 47 #[ptr cb] w (Gives B kb w 0 1 a) := by
  have c2 := hc.c2
  have H := Lib.hid h
  clear h hc
  have hd : decide (x < 0) = false := by simp; omega
  have hd2 : decide (65535 < x) = true := by simp; omega
  clear hy
  go_enter Try.func47, Try.ntmps47
  go_wp2
  go_ret2
  exact Gives.same H.out 0 1 _ (World.drewN_zero w).symm
set_option maxHeartbeats 1000000 in
set_option maxRecDepth 100000 in
theorem test_ok (B kb : Nat) (g : G) (a : A) (w : World) (h : KRep B kb g a w) (cb : Nat) (own x y : Int) (hc : callAt w cb kb (ptr (g.tb own)) x y) (ho : own ∈ a.tids) (hx : 0 ≤ x ∧ x ≤ 65535) :
    Calls Try.prog 47 #[ptr cb] w (Gives B kb w (bits .and .i64 (a.tk own).flags x) 0 (testA a own x)) := by
  have c1 := hc.c1
  have c2 := hc.c2
  have t5 := h.t5 ho
  have f5 := h.tf ho 5
  have H := Lib.hid h
  have HO := Lib.hid ho
  clear h hc ho
  have hd : decide (x < 0) = false := by simp; omega
  have hd2 : decide (65535 < x) = false := by simp; omega
  clear hx
  go_enter Try.func47, Try.ntmps47
  go_wp2
  go_quiet (fail)
  go_wp2
  obtain ⟨C, hCd⟩ : ∃ C : World → Prop, ∀ z, C z ↔ (z.cell? ⟨cb, 1, none⟩ = some (ptr (g.tb own)) ∧ z.cell? ⟨cb, 2, none⟩ = some (.int .i64 x) ∧ z.cell? ⟨g.tb own, 5, none⟩ = some (.int .i64 (a.tk own).flags)) := ⟨_, fun _ => Iff.rfl⟩
  have s1 : ∀ s : {z : World // C z}, s.1.cell? ⟨cb, 1, none⟩ = some (ptr (g.tb own)) := fun s => ((hCd s.1).1 s.2).1
  have s2 : ∀ s : {z : World // C z}, s.1.cell? ⟨cb, 2, none⟩ = some (.int .i64 x) := fun s => ((hCd s.1).1 s.2).2.1
  have s5 : ∀ s : {z : World // C z}, s.1.cell? ⟨g.tb own, 5, none⟩ = some (.int .i64 (a.tk own).flags) := fun s => ((hCd s.1).1 s.2).2.2
  haveI : Nonempty {z : World // C z} := ⟨⟨w, (hCd _).2 ⟨c1, c2, t5⟩⟩⟩
  refine Mix.wp_region_mix C [16] (by kernel_rfl) (by kernel_rfl) ((hCd _).2 ⟨c1, c2, t5⟩) ?_
  have HCD := Lib.hid hCd
  clear hCd
  repeat (refine Mix.mix_still rfl (fun K hK => ?_); go_simp; refine hK _ ?_; clear hK K)
  refine Mix.mix_eff rfl ?_
  go_wp2
  refine Mix.mix_nil ?_
  go_wp2
  go_ret2
  have h1 := H.out.keep (w' := w.drewN (nq + 1)) (fun _ _ => rfl)
  have e1 := set_same (h1.task own HO.out) 5 (.int .i64 (bits .andNot .i64 (a.tk own).flags x))
  have hl := H.out.okT HO.out
  have hl : Ok B kb (w.drewN (nq + 1)) (g.tb own) := hl.drewN (nq + 1)
  exact ⟨rfl, ((bel_drewN (Bel.refl _ _ _) _).setCell hl _), _, h1.setTask HO.out { a.tk own with flags := bits .andNot .i64 (a.tk own).flags x } (Touch.setCell _ _ _ (S := fun k => k = g.tb own) rfl) (by simpa [tcells] using e1)⟩
end Go.Proofs.Ytkmgbnklfnjfjaa.Ker
