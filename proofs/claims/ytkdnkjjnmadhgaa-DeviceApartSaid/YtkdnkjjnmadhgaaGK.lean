import Derived.Test.YtkdnkjjnmadhgaaGD
import Derived.Test.YtkdnkjjnmadhgaaFG
import Derived.Test.YtkdnkjjnmadhgaaGI
import Derived.Test.YtkdnkjjnmadhgaaFK
import Derived.Test.YtkdnkjjnmadhgaaDZ
set_option linter.unusedVariables false
set_option linter.unusedSimpArgs false
/-! A request that the bus refuses. (Printed by mk_ge.py.) -/
namespace Go.Proofs.Ytkdnkjjnmadhgaa.Dev
open Go.RowKit Go.Maps Go.Lib

set_option maxHeartbeats 4000000 in
set_option maxRecDepth 100000 in
/-- Too early. -/
theorem send_late (w : World) (B b d : Nat) (m : BM) (h : BRep B w b m) (dev at_ : Int) (hdev : 1 ≤ dev) (hd : m.ds[(dev - 1).toNat]? = some (.iface 81 (ptr d))) (pk do_ a_ b_ : Int) (dv : Sl) (hat : at_ < m.now) :
    Calls Try.prog 28 #[ptr b, .int .i64 dev, .int .i64 at_, .agg #[.int .i64 pk, .int .i64 do_, .int .i64 a_, .int .i64 b_, slv dv]] w fun e w' => e = .returned (.int .i64 1) ∧ Below w.heap.size w w' := by
  have C33 := Lib.hid (fun (w' : World) (h' : BRep B w' b m) => device_some w' B b m h' dev hdev _ hd)
  have C89 := Lib.hid (fun (w' : World) (v : Value) => disk_has w' v do_)
  have m1 := fun (w' : World) => meth_has81 (ptr d) w'
  have e1 := fun (args : Array Value) (w' : World) => enters_of Try.func89 (by decide) rfl args w'
  have t1 : decide (at_ < m.now) = true := by simpa using hat
  obtain ⟨W, hW⟩ : ∃ W, W = w.alloc (.cells #[.int .i64 pk, .int .i64 do_, .int .i64 a_, .int .i64 b_, slv dv] 41) := ⟨_, rfl⟩
  have hbw : Below w.heap.size w W := by rw [hW]; exact (Below.refl _ _).alloc (Nat.le_refl _) _
  have gb : W.heap[w.heap.size]? = some (.cells #[.int .i64 pk, .int .i64 do_, .int .i64 a_, .int .i64 b_, slv dv] 41 (0, 0)) := by rw [hW]; exact alloc_new _ _
  have hr : BRep B W b m := h.keep fun k hl _ => hbw.block k hl
  go_enter Try.func28, Try.ntmps28
  go_upto_region 3 with (fail)
  rw [← hW]
  have z1 : W.cell? ⟨w.heap.size, 1, none⟩ = some (.int .i64 do_) := (cell_of gb 1).trans rfl
  have z4 : W.cell? ⟨w.heap.size, 4, none⟩ = some (slv dv) := (cell_of gb 4).trans rfl
  obtain ⟨c0, c1, c2, c3, c4⟩ := hr.all
  have HR := Lib.hid hr
  have HB := Lib.hid hbw
  clear hr h gb hbw hW hd hdev hat
  go_wp2_with (first | (go_at_call 33; (refine (C33.out _ HR.out).mono ?_); rintro e w1 ⟨rfl, hw1⟩; (obtain rfl : W = w1 := hw1.symm)) | (go_at_call 89; (refine (C89.out _ _).mono ?_); rintro e w1 ⟨rfl, hw1⟩; (obtain rfl : W = w1 := hw1.symm)))
  go_ret
  exact ⟨rfl, HB.out⟩
set_option maxHeartbeats 4000000 in
set_option maxRecDepth 100000 in
/-- Too late. -/
theorem send_far (w : World) (B b d : Nat) (m : BM) (h : BRep B w b m) (dev at_ : Int) (hdev : 1 ≤ dev) (hd : m.ds[(dev - 1).toNat]? = some (.iface 81 (ptr d))) (pk do_ a_ b_ : Int) (dv : Sl) (hat : ¬ at_ < m.now) (hat1 : 1000000000 < at_) :
    Calls Try.prog 28 #[ptr b, .int .i64 dev, .int .i64 at_, .agg #[.int .i64 pk, .int .i64 do_, .int .i64 a_, .int .i64 b_, slv dv]] w fun e w' => e = .returned (.int .i64 1) ∧ Below w.heap.size w w' := by
  have C33 := Lib.hid (fun (w' : World) (h' : BRep B w' b m) => device_some w' B b m h' dev hdev _ hd)
  have C89 := Lib.hid (fun (w' : World) (v : Value) => disk_has w' v do_)
  have m1 := fun (w' : World) => meth_has81 (ptr d) w'
  have e1 := fun (args : Array Value) (w' : World) => enters_of Try.func89 (by decide) rfl args w'
  have t1 : decide (at_ < m.now) = false := by simpa using hat
  have t2 : decide (1000000000 < at_) = true := by simpa using hat1
  obtain ⟨W, hW⟩ : ∃ W, W = w.alloc (.cells #[.int .i64 pk, .int .i64 do_, .int .i64 a_, .int .i64 b_, slv dv] 41) := ⟨_, rfl⟩
  have hbw : Below w.heap.size w W := by rw [hW]; exact (Below.refl _ _).alloc (Nat.le_refl _) _
  have gb : W.heap[w.heap.size]? = some (.cells #[.int .i64 pk, .int .i64 do_, .int .i64 a_, .int .i64 b_, slv dv] 41 (0, 0)) := by rw [hW]; exact alloc_new _ _
  have hr : BRep B W b m := h.keep fun k hl _ => hbw.block k hl
  go_enter Try.func28, Try.ntmps28
  go_upto_region 3 with (fail)
  rw [← hW]
  have z1 : W.cell? ⟨w.heap.size, 1, none⟩ = some (.int .i64 do_) := (cell_of gb 1).trans rfl
  have z4 : W.cell? ⟨w.heap.size, 4, none⟩ = some (slv dv) := (cell_of gb 4).trans rfl
  obtain ⟨c0, c1, c2, c3, c4⟩ := hr.all
  have HR := Lib.hid hr
  have HB := Lib.hid hbw
  clear hr h gb hbw hW hd hdev hat hat1
  go_wp2_with (first | (go_at_call 33; (refine (C33.out _ HR.out).mono ?_); rintro e w1 ⟨rfl, hw1⟩; (obtain rfl : W = w1 := hw1.symm)) | (go_at_call 89; (refine (C89.out _ _).mono ?_); rintro e w1 ⟨rfl, hw1⟩; (obtain rfl : W = w1 := hw1.symm)))
  go_ret
  exact ⟨rfl, HB.out⟩
set_option maxHeartbeats 4000000 in
set_option maxRecDepth 100000 in
/-- It has no such request. -/
theorem send_what (w : World) (B b d : Nat) (m : BM) (h : BRep B w b m) (dev at_ : Int) (hdev : 1 ≤ dev) (hd : m.ds[(dev - 1).toNat]? = some (.iface 81 (ptr d))) (pk do_ a_ b_ : Int) (dv : Sl) (hat : ¬ at_ < m.now) (hat1 : ¬ 1000000000 < at_) (hdo : ¬ (1 ≤ do_ ∧ do_ ≤ 3)) :
    Calls Try.prog 28 #[ptr b, .int .i64 dev, .int .i64 at_, .agg #[.int .i64 pk, .int .i64 do_, .int .i64 a_, .int .i64 b_, slv dv]] w fun e w' => e = .returned (.int .i64 1) ∧ Below w.heap.size w w' := by
  have C33 := Lib.hid (fun (w' : World) (h' : BRep B w' b m) => device_some w' B b m h' dev hdev _ hd)
  have C89 := Lib.hid (fun (w' : World) (v : Value) => disk_has w' v do_)
  have m1 := fun (w' : World) => meth_has81 (ptr d) w'
  have e1 := fun (args : Array Value) (w' : World) => enters_of Try.func89 (by decide) rfl args w'
  have t1 : decide (at_ < m.now) = false := by simpa using hat
  have t2 : decide (1000000000 < at_) = false := by simpa using hat1
  rw [decide_eq_false hdo] at C89
  obtain ⟨W, hW⟩ : ∃ W, W = w.alloc (.cells #[.int .i64 pk, .int .i64 do_, .int .i64 a_, .int .i64 b_, slv dv] 41) := ⟨_, rfl⟩
  have hbw : Below w.heap.size w W := by rw [hW]; exact (Below.refl _ _).alloc (Nat.le_refl _) _
  have gb : W.heap[w.heap.size]? = some (.cells #[.int .i64 pk, .int .i64 do_, .int .i64 a_, .int .i64 b_, slv dv] 41 (0, 0)) := by rw [hW]; exact alloc_new _ _
  have hr : BRep B W b m := h.keep fun k hl _ => hbw.block k hl
  go_enter Try.func28, Try.ntmps28
  go_upto_region 3 with (fail)
  rw [← hW]
  have z1 : W.cell? ⟨w.heap.size, 1, none⟩ = some (.int .i64 do_) := (cell_of gb 1).trans rfl
  have z4 : W.cell? ⟨w.heap.size, 4, none⟩ = some (slv dv) := (cell_of gb 4).trans rfl
  obtain ⟨c0, c1, c2, c3, c4⟩ := hr.all
  have HR := Lib.hid hr
  have HB := Lib.hid hbw
  clear hr h gb hbw hW hd hdev hat hat1 hdo
  go_wp2_with (first | (go_at_call 33; (refine (C33.out _ HR.out).mono ?_); rintro e w1 ⟨rfl, hw1⟩; (obtain rfl : W = w1 := hw1.symm)) | (go_at_call 89; (refine (C89.out _ _).mono ?_); rintro e w1 ⟨rfl, hw1⟩; (obtain rfl : W = w1 := hw1.symm)))
  go_ret
  exact ⟨rfl, HB.out⟩
set_option maxHeartbeats 4000000 in
set_option maxRecDepth 100000 in
/-- Too many bytes. -/
theorem send_much (w : World) (B b d : Nat) (m : BM) (h : BRep B w b m) (dev at_ : Int) (hdev : 1 ≤ dev) (hd : m.ds[(dev - 1).toNat]? = some (.iface 81 (ptr d))) (pk do_ a_ b_ : Int) (dv : Sl) (hat : ¬ at_ < m.now) (hat1 : ¬ 1000000000 < at_) (hdo : 1 ≤ do_ ∧ do_ ≤ 3) (hsent : 0 ≤ m.sent ∧ m.sent < 400) (hdata : 4000 < dv.2.1) :
    Calls Try.prog 28 #[ptr b, .int .i64 dev, .int .i64 at_, .agg #[.int .i64 pk, .int .i64 do_, .int .i64 a_, .int .i64 b_, slv dv]] w fun e w' => e = .returned (.int .i64 2) ∧ Below w.heap.size w w' := by
  have C33 := Lib.hid (fun (w' : World) (h' : BRep B w' b m) => device_some w' B b m h' dev hdev _ hd)
  have C89 := Lib.hid (fun (w' : World) (v : Value) => disk_has w' v do_)
  have m1 := fun (w' : World) => meth_has81 (ptr d) w'
  have e1 := fun (args : Array Value) (w' : World) => enters_of Try.func89 (by decide) rfl args w'
  have t1 : decide (at_ < m.now) = false := by simpa using hat
  have t2 : decide (1000000000 < at_) = false := by simpa using hat1
  rw [decide_eq_true hdo] at C89
  have t3 : (m.sent == 400) = false := by simp; omega
  have t4 : decide (4000 < (dv.2.1 : Int)) = true := by simp; omega
  obtain ⟨W, hW⟩ : ∃ W, W = w.alloc (.cells #[.int .i64 pk, .int .i64 do_, .int .i64 a_, .int .i64 b_, slv dv] 41) := ⟨_, rfl⟩
  have hbw : Below w.heap.size w W := by rw [hW]; exact (Below.refl _ _).alloc (Nat.le_refl _) _
  have gb : W.heap[w.heap.size]? = some (.cells #[.int .i64 pk, .int .i64 do_, .int .i64 a_, .int .i64 b_, slv dv] 41 (0, 0)) := by rw [hW]; exact alloc_new _ _
  have hr : BRep B W b m := h.keep fun k hl _ => hbw.block k hl
  go_enter Try.func28, Try.ntmps28
  go_upto_region 3 with (fail)
  rw [← hW]
  have z1 : W.cell? ⟨w.heap.size, 1, none⟩ = some (.int .i64 do_) := (cell_of gb 1).trans rfl
  have z4 : W.cell? ⟨w.heap.size, 4, none⟩ = some (slv dv) := (cell_of gb 4).trans rfl
  obtain ⟨c0, c1, c2, c3, c4⟩ := hr.all
  have HR := Lib.hid hr
  have HB := Lib.hid hbw
  clear hr h gb hbw hW hd hdev hat hat1 hdo hsent hdata
  go_wp2_with (first | (go_at_call 33; (refine (C33.out _ HR.out).mono ?_); rintro e w1 ⟨rfl, hw1⟩; (obtain rfl : W = w1 := hw1.symm)) | (go_at_call 89; (refine (C89.out _ _).mono ?_); rintro e w1 ⟨rfl, hw1⟩; (obtain rfl : W = w1 := hw1.symm)))
  go_ret
  exact ⟨rfl, HB.out⟩
end Go.Proofs.Ytkdnkjjnmadhgaa.Dev

/-! DeviceReads, the plain law: the road of a disk. -/
namespace Go.Proofs.Ytkdnkjjnmadhgaa.Dev

/-- A disk on the road: its blocks, as bytes; i requests came. -/
structure PDInv (n i : Nat) (p : PD) (bl : List (List Int)) : Prop where
  blocks : p.blocks = bl.map bytes
  len : bl.length = n
  byt : ∀ x ∈ bl, Byt x
  l64 : ∀ x ∈ bl, x.length = 64
  old : p.old.length = n
  now : ∀ T, (∀ x ∈ p.writes, x.1 ≤ T) → nowF p.old p.writes T = p.blocks
  wr : ∀ x ∈ p.writes, 0 ≤ x.2.1 ∧ x.2.1 < (n : Int) ∧ x.1 ≤ p.free
  wl : p.writes.length ≤ i
  bad : p.bad = []
  arm0 : 0 ≤ p.arm
  arm1 : p.arm ≤ 256
  free0 : 0 ≤ p.free
  free1 : p.free ≤ 900000000 + 257 * i
theorem zeros_bytes : zeros = bytes (List.replicate 64 0) := by
  unfold zeros bytes
  rw [List.map_replicate]
theorem PDInv.start (n : Nat) : PDInv n 0 (disk0 n) (List.replicate n (List.replicate 64 0)) where
  blocks := by rw [List.map_replicate, ← zeros_bytes]; rfl
  len := by simp
  byt := fun x hx b hb => by
    rw [(List.mem_replicate.1 hx).2] at hb
    rw [(List.mem_replicate.1 hb).2]
    decide
  l64 := fun x hx => by rw [(List.mem_replicate.1 hx).2]; simp
  old := by simp [disk0]
  now := fun T _ => rfl
  wr := fun x hx => by simp [disk0] at hx
  wl := by simp [disk0]
  bad := rfl
  arm0 := by simp [disk0]
  arm1 := by simp [disk0]
  free0 := by simp [disk0]
  free1 := by simp [disk0]
theorem moveF_bounds {n i : Nat} {p : PD} {bl : List (List Int)} (h : PDInv n i p bl) (hn : n ≤ 256) (q : Rq) (h0 : 0 ≤ q.at_) (h1 : q.at_ ≤ 900000000) (ha : 0 ≤ q.a_) (ha2 : q.a_ < (n : Int)) : p.free ≤ moveF p q ∧ moveF p q ≤ 900000000 + 257 * (i + 1 : Nat) ∧ q.at_ ≤ moveF p q := by
  have := h.arm0
  have := h.arm1
  have := h.free0
  have := h.free1
  unfold moveF
  omega
theorem max_bounds {n i : Nat} {p : PD} {bl : List (List Int)} (h : PDInv n i p bl) (q : Rq) (h1 : q.at_ ≤ 900000000) : p.free ≤ max q.at_ p.free ∧ max q.at_ p.free ≤ 900000000 + 257 * (i + 1 : Nat) := by
  have := h.free0
  have := h.free1
  omega
/-- The blocks behind a request. -/
def blF (n : Nat) (bl : List (List Int)) (q : Rq) (data : List Int) : List (List Int) :=
  if q.do_ = 3 ∨ (q.a_ < 0 ∨ (n : Int) ≤ q.a_) ∨ (q.do_ = 1 ∧ 0 < data.length) ∨ (q.do_ = 2 ∧ data.length ≠ 64) ∨ q.do_ = 1 then bl else bl.set q.a_.toNat data
theorem PDInv.step {n i : Nat} {p : PD} {bl : List (List Int)} (h : PDInv n i p bl) (hn : n ≤ 256) (q : Rq) (data : List Int) (hb : Byt data) (h0 : 0 ≤ q.at_) (h1 : q.at_ ≤ 900000000) (hdo : 1 ≤ q.do_ ∧ q.do_ ≤ 3) :
    PDInv n (i + 1) (diskF p q (bytes data)).1 (blF n bl q data) ∧ (diskF p q (bytes data)).2.1 = (diskF p q (bytes data)).1.free ∧ p.free ≤ (diskF p q (bytes data)).1.free := by
  have hlen : p.blocks.length = n := by rw [h.blocks, List.length_map, h.len]
  have hdl : (bytes data).length = data.length := by simp [bytes]
  obtain ⟨m1, m2⟩ := max_bounds h q h1
  have hkeep : ∀ (f : Int) (arm : Int), p.free ≤ f → f ≤ 900000000 + 257 * (i + 1 : Nat) → 0 ≤ arm → arm ≤ 256 → PDInv n (i + 1) { p with free := f, arm := arm } bl := fun f arm f1 f2 a1 a2 =>
    { blocks := h.blocks, len := h.len, byt := h.byt, l64 := h.l64, old := h.old, now := h.now, wr := fun x hx => ⟨(h.wr x hx).1, (h.wr x hx).2.1, Int.le_trans (h.wr x hx).2.2 f1⟩, wl := Nat.le_succ_of_le h.wl, bad := h.bad, arm0 := a1, arm1 := a2, free0 := Int.le_trans h.free0 f1, free1 := f2 }
  unfold diskF blF
  by_cases h3 : q.do_ = 3
  · rw [if_pos h3, if_pos (.inl h3)]
    exact ⟨hkeep _ _ m1 m2 h.arm0 h.arm1, rfl, m1⟩
  · rw [if_neg h3]
    rw [hlen, hdl]
    by_cases hr : q.a_ < 0 ∨ (n : Int) ≤ q.a_
    · rw [if_pos hr, if_pos (.inr (.inl hr))]
      exact ⟨hkeep _ _ m1 m2 h.arm0 h.arm1, rfl, m1⟩
    · rw [if_neg hr]
      have ha : 0 ≤ q.a_ := by omega
      have ha2 : q.a_ < (n : Int) := by omega
      obtain ⟨g1, g2, _⟩ := moveF_bounds h hn q h0 h1 ha ha2
      by_cases hbf : (q.do_ = 1 ∧ 0 < data.length) ∨ (q.do_ = 2 ∧ data.length ≠ 64)
      · rw [if_pos hbf, if_pos (.inr (.inr (hbf.imp id .inl)))]
        exact ⟨hkeep _ _ m1 m2 h.arm0 h.arm1, rfl, m1⟩
      · rw [if_neg hbf, if_neg (show q.a_ ∉ p.bad by rw [h.bad]; simp)]
        by_cases hd1 : q.do_ = 1
        · rw [if_pos hd1, if_pos (.inr (.inr (.inr (.inr hd1))))]
          refine ⟨?_, rfl, g1⟩
          exact hkeep _ _ g1 g2 ha (by omega)
        · rw [if_neg hd1, if_neg (by omega)]
          have h64 : data.length = 64 := by omega
          refine ⟨?_, rfl, g1⟩
          refine { blocks := ?_, len := by rw [List.length_set, h.len], byt := fun x hx => ?_, l64 := fun x hx => ?_, old := h.old, now := fun T hT => ?_, wr := fun x hx => ?_, wl := ?_, bad := h.bad, arm0 := ha, arm1 := by show q.a_ ≤ 256; omega, free0 := Int.le_trans h.free0 g1, free1 := g2 }
          · show p.blocks.set q.a_.toNat (bytes data) = _
            rw [List.map_set, h.blocks]
          · rcases List.mem_or_eq_of_mem_set hx with hx | rfl
            · exact h.byt x hx
            · exact hb
          · rcases List.mem_or_eq_of_mem_set hx with hx | rfl
            · exact h.l64 x hx
            · exact h64
          · show nowF p.old (p.writes ++ [(moveF p q, q.a_, bytes data)]) T = p.blocks.set q.a_.toNat (bytes data)
            rw [nowF_snoc, if_pos (hT _ (by simp)), h.now T fun x hx => hT x (by simp [hx])]
          · rcases List.mem_append.1 hx with hx | hx
            · exact ⟨(h.wr x hx).1, (h.wr x hx).2.1, Int.le_trans (h.wr x hx).2.2 g1⟩
            · rw [List.mem_singleton] at hx
              subst hx
              exact ⟨ha, ha2, Int.le_refl _⟩
          · show (p.writes ++ [_]).length ≤ i + 1
            have := h.wl
            simp
            omega
theorem PDInv.fit {n i : Nat} {p : PD} {bl : List (List Int)} (h : PDInv n i p bl) (hn : n ≤ 256) (hi : i ≤ 100) (q : Rq) (h0 : 0 ≤ q.at_) (h1 : q.at_ ≤ 1000000000) : DFit p q where
  at0 := h0
  at1 := h1
  f0 := h.free0
  f1 := by have := h.free1; omega
  a0 := h.arm0
  a1 := by have := h.arm1; omega
  nb := by rw [h.blocks, List.length_map, h.len]; omega
  bad := by rw [h.bad]; simp
  blk := fun xs hx => by
    rw [h.blocks] at hx
    obtain ⟨x, hx2, rfl⟩ := List.mem_map.1 hx
    have := h.l64 x hx2
    simp [bytes, this]

section
variable (n : Nat) (qs : List PQ) (ts : List Int)
def pq (i : Nat) : PQ := qs.getD i ⟨0, 0, 0, 0, (none, 0, 0), []⟩
def rqOf (i : Nat) : Rq := ⟨(i : Int) + 1, (pq qs i).do_, (pq qs i).a_, (pq qs i).b_, (pq qs i).dv, ts.getD i 0, (i : Int)⟩
/-- The disk behind i requests. -/
def pdN : Nat → PD
  | 0 => disk0 n
  | i + 1 => (diskF (pdN i) (rqOf qs ts i) (bytes (pq qs i).data)).1
/-- The reply to a request. -/
def ansN (i : Nat) : Ans := (rqOf qs ts i, (diskF (pdN n qs ts i) (rqOf qs ts i) (bytes (pq qs i).data)).2.1, (diskF (pdN n qs ts i) (rqOf qs ts i) (bytes (pq qs i).data)).2.2.1, (diskF (pdN n qs ts i) (rqOf qs ts i) (bytes (pq qs i).data)).2.2.2)
/-- The blocks' bytes behind i requests. -/
def blN : Nat → List (List Int)
  | 0 => List.replicate n (List.replicate 64 0)
  | i + 1 => blF n (blN i) (rqOf qs ts i) (pq qs i).data
def nowN (i : Nat) : Int := if i = 0 then 0 else ts.getD (i - 1) 0
/-- A request that is taken. -/
def OkN (i : Nat) : Prop := nowN ts i ≤ ts.getD i 0 ∧ ts.getD i 0 ≤ 1000000000 ∧ (1 ≤ (pq qs i).do_ ∧ (pq qs i).do_ ≤ 3) ∧ (pq qs i).data.length ≤ 4000
end
variable {n : Nat} {qs : List PQ} {ts : List Int}
theorem nowN_pos {i : Nat} (hok : ∀ j, j < i → OkN qs ts j) : 0 ≤ nowN ts i := by
  induction i with
  | zero => simp [nowN]
  | succ i ih =>
    have h1 := ih fun j hj => hok j (by omega)
    have h2 := (hok i (by omega)).1
    simp only [nowN, Nat.succ_ne_zero, if_false, Nat.add_sub_cancel]
    omega
theorem road_inv (hn : n ≤ 256) (hb : ∀ i, Byt (pq qs i).data) (ht : ∀ i, ts.getD i 0 ≤ 900000000) : ∀ {i : Nat}, (∀ j, j < i → OkN qs ts j) → PDInv n i (pdN n qs ts i) (blN n qs ts i)
  | 0, _ => PDInv.start n
  | i + 1, hok => by
    have h := road_inv hn hb ht (i := i) fun j hj => hok j (by omega)
    have h0 := nowN_pos (i := i) fun j hj => hok j (by omega)
    have h1 := hok i (by omega)
    exact (h.step hn (rqOf qs ts i) (pq qs i).data (hb i) (by show 0 ≤ ts.getD i 0; have := h1.1; omega) (ht i) h1.2.2.1).1
theorem road_step (hn : n ≤ 256) (hb : ∀ i, Byt (pq qs i).data) (ht : ∀ i, ts.getD i 0 ≤ 900000000) {i : Nat} (hok : ∀ j, j < i + 1 → OkN qs ts j) : (ansN n qs ts i).2.1 = (pdN n qs ts (i + 1)).free ∧ (pdN n qs ts i).free ≤ (pdN n qs ts (i + 1)).free := by
  have h := road_inv hn hb ht (i := i) fun j hj => hok j (by omega)
  have h0 := nowN_pos (i := i) fun j hj => hok j (by omega)
  have h1 := hok i (by omega)
  exact (h.step hn (rqOf qs ts i) (pq qs i).data (hb i) (by show 0 ≤ ts.getD i 0; have := h1.1; omega) (ht i) h1.2.2.1).2
theorem free_mono (hn : n ≤ 256) (hb : ∀ i, Byt (pq qs i).data) (ht : ∀ i, ts.getD i 0 ≤ 900000000) {i j : Nat} (hij : i ≤ j) (hok : ∀ k, k < j → OkN qs ts k) : (pdN n qs ts i).free ≤ (pdN n qs ts j).free := by
  induction j with
  | zero => obtain rfl : i = 0 := by omega
            exact Int.le_refl _
  | succ j ih =>
    by_cases e : i = j + 1
    · subst e; exact Int.le_refl _
    · exact Int.le_trans (ih (by omega) fun k hk => hok k (by omega)) (road_step hn hb ht hok).2
/-- The replies so far are in their order. -/
theorem road_sorted (hn : n ≤ 256) (hb : ∀ i, Byt (pq qs i).data) (ht : ∀ i, ts.getD i 0 ≤ 900000000) {i : Nat} (hok : ∀ j, j < i → OkN qs ts j) : sortA ((List.range i).map (ansN n qs ts)) = (List.range i).map (ansN n qs ts) := by
  refine sortA_of_sorted ?_ ?_
  · unfold Sorted
    rw [List.pairwise_map]
    refine List.Pairwise.imp_of_mem ?_ (List.pairwise_lt_range (n := i))
    intro a b ha hb' hab
    have hbi := List.mem_range.1 hb'
    have e1 := (road_step hn hb ht (i := a) fun j hj => hok j (by omega)).1
    have e2 := (road_step hn hb ht (i := b) fun j hj => hok j (by omega)).1
    have e3 := free_mono hn hb ht (i := a + 1) (j := b + 1) (by omega) fun k hk => hok k (by omega)
    unfold ansLe
    rw [decide_eq_true_iff, e1, e2]
    have e4 : (ansN n qs ts a).1.ord = (a : Int) := rfl
    have e5 : (ansN n qs ts b).1.ord = (b : Int) := rfl
    omega
  · intro a ha b hb' e
    obtain ⟨x, _, rfl⟩ := List.mem_map.1 ha
    obtain ⟨y, _, rfl⟩ := List.mem_map.1 hb'
    have e4 : (ansN n qs ts x).1.ord = (x : Int) := rfl
    have e5 : (ansN n qs ts y).1.ord = (y : Int) := rfl
    rw [e4, e5] at e
    obtain rfl : x = y := by omega
    rfl
end Go.Proofs.Ytkdnkjjnmadhgaa.Dev
/-! DeviceReads: a bus with one disk on the road. -/
namespace Go.Proofs.Ytkdnkjjnmadhgaa.Dev
open Go.RowKit Go.Maps Go.Lib

theorem Sys.keep46 {B : Nat} {w w' : World} {b d : Nat} {bm : BM} {dm : DM} {p : PD} (h : Sys B w b d bm dm p) (hk : ∀ k, k < w.heap.size → (k < B ∨ ∃ cur ty, w.heap[k]? = some (.cells cur ty (0, 0)) ∧ ty ≠ 46) → w'.heap[k]? = w.heap[k]?) : Sys B w' b d bm dm p :=
  h.keep fun k hl ho => hk k hl (ho.imp id fun ⟨cur, ty, hc, ht⟩ => ⟨cur, ty, hc, by rcases ht with rfl | rfl | rfl | rfl | rfl | rfl | rfl | rfl <;> decide⟩)
section
variable (w : World) (b n : Nat) (qs : List PQ) (ts : List Int)
/-- Behind i requests. -/
def RSt (i : Nat) (wr : World) : Prop :=
  ∃ d bm dm, Sys w.heap.size wr b d bm dm (pdN n qs ts i) ∧ bm.now = nowN ts i ∧ bm.sent = i ∧ bm.told = 0 ∧ All2 (RepOf w.heap.size wr) bm.rs ((List.range i).map (ansN n qs ts)) ∧ Below w.heap.size w wr
/-- Behind the last look. -/
def REnd (i : Nat) (wr : World) : Prop :=
  ∃ d bm dm, Sys w.heap.size wr b d bm dm (pdN n qs ts i) ∧ bm.now = 1000000000 ∧ Below w.heap.size w wr
end
variable {w : World} {b n : Nat} {qs : List PQ} {ts : List Int}
theorem RSt.keep {i : Nat} {wr w' : World} (h : RSt w b n qs ts i wr) (ht : Touch wr w' (fun k => w.heap.size ≤ k ∧ ∃ cur, wr.heap[k]? = some (.cells cur 46 (0, 0)))) : RSt w b n qs ts i w' := by
  obtain ⟨d, bm, lm, hs, h1, h2, h3, h4, hb⟩ := h
  have hk : ∀ k, k < wr.heap.size → (k < w.heap.size ∨ ∃ cur ty, wr.heap[k]? = some (.cells cur ty (0, 0)) ∧ ty ≠ 46) → w'.heap[k]? = wr.heap[k]? := fun k hl ho => ht.block k hl fun ⟨e1, cur, e2⟩ => by
    rcases ho with ho | ⟨cur', ty, ho, hty⟩
    · omega
    · rw [e2] at ho
      simp at ho
      exact hty ho.2.symm
  exact ⟨d, bm, lm, hs.keep46 hk, h1, h2, h3, h4.mono fun x y hh => hh.keep fun k hl ho => hk k hl (ho.imp id fun ⟨cur, hc⟩ => ⟨cur, 5, hc, by decide⟩), hb.trans (ht.below hb.size fun k hk => hk.1)⟩
theorem REnd.keep {i : Nat} {wr w' : World} (h : REnd w b n qs ts i wr) (ht : Touch wr w' (fun k => w.heap.size ≤ k ∧ ∃ cur, wr.heap[k]? = some (.cells cur 46 (0, 0)))) : REnd w b n qs ts i w' := by
  obtain ⟨d, bm, lm, hs, h1, hb⟩ := h
  have hk : ∀ k, k < wr.heap.size → (k < w.heap.size ∨ ∃ cur ty, wr.heap[k]? = some (.cells cur ty (0, 0)) ∧ ty ≠ 46) → w'.heap[k]? = wr.heap[k]? := fun k hl ho => ht.block k hl fun ⟨e1, cur, e2⟩ => by
    rcases ho with ho | ⟨cur', ty, ho, hty⟩
    · omega
    · rw [e2] at ho
      simp at ho
      exact hty ho.2.symm
  exact ⟨d, bm, lm, hs.keep46 hk, h1, hb.trans (ht.below hb.size fun k hk => hk.1)⟩
theorem Sys.fr3 {B : Nat} {w w' : World} {b d : Nat} {bm : BM} {dm : DM} {p : PD} (h : Sys B w b d bm dm p) (ht : Touch w w' (SysB b d bm dm)) : Frame3 w w' := fun k cur ty hc hty => ht.block k (blt hc) fun e => by
  obtain ⟨_, cur', ty', hc', ht'⟩ := h.tys e
  rw [hc] at hc'
  simp at hc'
  obtain ⟨_, rfl⟩ := hc'
  rcases hty with rfl | rfl | rfl <;> simp at ht'
/-- A request that is taken. -/
theorem rst_send (hn : n ≤ 256) (hb : ∀ i, Byt (pq qs i).data) (ht : ∀ i, ts.getD i 0 ≤ 900000000) {i : Nat} (hi : i < 100) (hok : ∀ j, j < i + 1 → OkN qs ts j) (hd : Held w.heap.size 5 w (pq qs i).dv (bytes (pq qs i).data)) {wr : World} (h : RSt w b n qs ts i wr) :
    Calls Try.prog 28 #[ptr b, .int .i64 1, .int .i64 (ts.getD i 0), .agg #[.int .i64 ((i : Int) + 1), .int .i64 (pq qs i).do_, .int .i64 (pq qs i).a_, .int .i64 (pq qs i).b_, slv (pq qs i).dv]] wr fun e w' => e = .returned (.int .i64 0) ∧ RSt w b n qs ts (i + 1) w' ∧ Frame3 wr w' := by
  obtain ⟨d, bm, dm, hs, h1, h2, h3, h4, hbl⟩ := h
  have hk := hok i (by omega)
  have hinv := road_inv hn hb ht (i := i) fun j hj => hok j (by omega)
  have h0 := nowN_pos (i := i) fun j hj => hok j (by omega)
  have hd2 : Held w.heap.size 5 wr (pq qs i).dv (bytes (pq qs i).data) := hd.below hbl
  have hdl : (pq qs i).dv.2.1 = (pq qs i).data.length := by rw [← hd.1]; simp [bytes]
  have hq : (⟨(i : Int) + 1, (pq qs i).do_, (pq qs i).a_, (pq qs i).b_, (pq qs i).dv, ts.getD i 0, bm.sent⟩ : Rq) = rqOf qs ts i := by rw [h2]; rfl
  refine (sys_send wr w.heap.size b d bm dm _ (pdN n qs ts (i + 1)) hs (ts.getD i 0) ((i : Int) + 1) (pq qs i).do_ (pq qs i).a_ (pq qs i).b_ (pq qs i).dv (by rw [h1]; exact hk.1) hk.2.1 hk.2.2.1 (by omega) (by rw [hdl]; exact hk.2.2.2) (by rw [h4.1]; simp; omega)
    (ansN n qs ts i).2.1 (ansN n qs ts i).2.2.1 (ansN n qs ts i).2.2.2 ?_).mono ?_
  · intro W' hW' hT
    rw [hq]
    refine (disk_send W' w.heap.size d dm _ (rqOf qs ts i) hW' (hinv.fit hn (by omega) _ (by show 0 ≤ ts.getD i 0; have := hk.1; omega) hk.2.1) hk.2.2.1 (bytes (pq qs i).data) ?_ (by have := hinv.wl; omega)).mono fun e w'' hh => ⟨hh.1, ⟨hh.2.1.choose, hh.2.1.choose_spec.1⟩, hh.2.2⟩
    exact hd2.touch5 hT fun k hk' => by
      obtain ⟨h5, cur, ty, h6, h7⟩ := hs.bus.tys (.inl hk')
      exact ⟨h5, cur, ty, h6, by rcases h7 with rfl | rfl <;> decide⟩
  · rintro e w' ⟨rfl, ⟨bm', dm', dv, k1, k2, k3, k4, k5, k6, k7⟩, kt⟩
    have hfr := hs.fr3 kt
    have hbw : Below w.heap.size w w' := hbl.trans (kt.below hbl.size fun k hk => (hs.tys hk).1)
    have h5 : All2 (RepOf w.heap.size w') bm.rs ((List.range i).map (ansN n qs ts)) := h4.mono fun x y hh => hh.keep fun k hk' ho => by
      rcases ho with ho | ⟨cur, ho⟩
      · exact (hbw.block k ho).trans (hbl.block k ho).symm
      · exact hfr k cur 5 ho (.inr (.inr rfl))
    refine ⟨rfl, ⟨d, bm', dm', k1, ?_, ?_, k5.trans h3, ?_, hbw⟩, hfr⟩
    · rw [k3]; simp [nowN]
    · rw [k4, h2]; simp
    · have hsnoc : (List.range (i + 1)).map (ansN n qs ts) = (List.range i).map (ansN n qs ts) ++ [ansN n qs ts i] := by rw [List.range_succ, List.map_append]; rfl
      have h6 : All2 (RepOf w.heap.size w') (bm.rs ++ [⟨(i : Int) + 1, (ansN n qs ts i).2.1, (ansN n qs ts i).2.2.1, dv, 1, bm.sent⟩]) ((List.range (i + 1)).map (ansN n qs ts)) := by
        rw [hsnoc]
        exact h5.snoc ⟨rfl, rfl, rfl, rfl, h2, k2⟩
      have h7 := rep_sorted k6 k7 h6 fun a ha c hc e => by
        obtain ⟨x, _, rfl⟩ := List.mem_map.1 ha
        obtain ⟨y, _, rfl⟩ := List.mem_map.1 hc
        have e4 : (ansN n qs ts x).1.ord = (x : Int) := rfl
        have e5 : (ansN n qs ts y).1.ord = (y : Int) := rfl
        rw [e4, e5] at e
        obtain rfl : x = y := by omega
        rfl
      rwa [road_sorted hn hb ht hok] at h7
/-- A request that is refused. -/
theorem rst_refuse {i : Nat} (hi : i < 100) (hok : ¬ OkN qs ts i) (hd : Held w.heap.size 5 w (pq qs i).dv (bytes (pq qs i).data)) {wr : World} (h : RSt w b n qs ts i wr) :
    Calls Try.prog 28 #[ptr b, .int .i64 1, .int .i64 (ts.getD i 0), .agg #[.int .i64 ((i : Int) + 1), .int .i64 (pq qs i).do_, .int .i64 (pq qs i).a_, .int .i64 (pq qs i).b_, slv (pq qs i).dv]] wr fun e w' => ∃ c : Int, c ≠ 0 ∧ e = .returned (.int .i64 c) ∧ Below wr.heap.size wr w' := by
  obtain ⟨d, bm, dm, hs, h1, h2, h3, h4, hbl⟩ := h
  have hdl : (pq qs i).dv.2.1 = (pq qs i).data.length := by rw [← hd.1]; simp [bytes]
  have hdev : bm.ds[((1 : Int) - 1).toNat]? = some (.iface 81 (ptr d)) := by rw [hs.ds]; rfl
  by_cases c1 : ts.getD i 0 < bm.now
  · exact (send_late wr w.heap.size b d bm hs.bus 1 _ (by decide) hdev _ _ _ _ _ c1).mono fun e w' hh => ⟨1, by decide, hh.1, hh.2⟩
  · by_cases c2 : 1000000000 < ts.getD i 0
    · exact (send_far wr w.heap.size b d bm hs.bus 1 _ (by decide) hdev _ _ _ _ _ c1 c2).mono fun e w' hh => ⟨1, by decide, hh.1, hh.2⟩
    · by_cases c3 : 1 ≤ (pq qs i).do_ ∧ (pq qs i).do_ ≤ 3
      · refine (send_much wr w.heap.size b d bm hs.bus 1 _ (by decide) hdev _ _ _ _ _ c1 c2 c3 (by omega) ?_).mono fun e w' hh => ⟨2, by decide, hh.1, hh.2⟩
        unfold OkN at hok
        rw [hdl]
        rw [h1] at c1
        by_cases c4 : (pq qs i).data.length ≤ 4000
        · exact absurd ⟨by omega, by omega, c3, c4⟩ hok
        · omega
      · exact (send_what wr w.heap.size b d bm hs.bus 1 _ (by decide) hdev _ _ _ _ _ c1 c2 c3).mono fun e w' hh => ⟨1, by decide, hh.1, hh.2⟩
/-- All replies are taken. -/
theorem rst_until (hn : n ≤ 256) (hb : ∀ i, Byt (pq qs i).data) (ht : ∀ i, ts.getD i 0 ≤ 900000000) {i : Nat} (hi : i ≤ 100) (hok : ∀ j, j < i → OkN qs ts j) {wr : World} (h : RSt w b n qs ts i wr) :
    Calls Try.prog 29 #[ptr b, .int .i64 1000000000] wr fun e w' => ∃ (v : Sl) (rs : List Rp), e = .returned (slv v) ∧ HOut w.heap.size wr.heap.size w' (slv v) rs ((List.range i).map (ansN n qs ts)) ∧ REnd w b n qs ts i w' ∧ Frame3 wr w' := by
  obtain ⟨d, bm, dm, hs, h1, h2, h3, h4, hbl⟩ := h
  have hnow : nowN ts i ≤ 1000000000 := by
    unfold nowN
    split
    · decide
    · have := ht (i - 1); omega
  refine (until_any wr w.heap.size b bm hs.bus 1000000000 (by rw [h1]; exact hnow) (by rw [h4.1]; simp; omega) (by omega)).mono ?_
  rintro e w' ⟨v, j, rfl, hj, c1, c2, hrow, htc, vr, hbr, _⟩
  have hty : ∀ k, k = b → w.heap.size ≤ k ∧ ∃ cur ty, wr.heap[k]? = some (.cells cur ty (0, 0)) ∧ (ty = 80 ∨ ty = 95) := fun k hk => hs.bus.tys (.inl hk)
  have hlen : bm.rs.length = i := by rw [h4.1]; simp
  have hall : j = bm.rs.length := by
    by_cases e : j = bm.rs.length
    · exact e
    · have hjl : j < bm.rs.length := by omega
      have hx := c2 _ _ (List.drop_eq_getElem_cons hjl)
      have hy := h4.2 j _ (ansN n qs ts j) (List.getElem?_eq_getElem hjl) (by rw [List.getElem?_map, List.getElem?_range (by omega)]; rfl)
      rw [hy.2.1] at hx
      have e1 := (road_step hn hb ht (i := j) fun k hk => hok k (by omega)).1
      have e2 := (road_inv hn hb ht (i := j + 1) fun k hk => hok k (by omega)).free1
      omega
  subst hall
  rw [List.take_length] at hrow
  have hfr : Frame3 wr w' := fun k cur ty hc ht => htc.block k (blt hc) fun e => by
    subst e
    rw [hs.bus.cells] at hc
    simp at hc
    obtain ⟨_, rfl⟩ := hc
    simp at ht
  refine ⟨v, bm.rs, rfl, ⟨hrow, h4.mono fun x y hh => ⟨hh.1, hh.2.1, hh.2.2.1, hh.2.2.2.2.1, hh.2.2.2.2.2.touch5 htc fun k hk => ?_⟩⟩, ⟨d, _, dm, ⟨hbr, hs.disk.touch htc hty, hs.ds⟩, rfl, hbl.trans (htc.below hbl.size fun k hk => by rw [hk]; exact hs.bus.low)⟩, hfr⟩
  obtain ⟨h5, cur, ty, h6, h7⟩ := hty k hk
  exact ⟨h5, cur, ty, h6, by rcases h7 with rfl | rfl <;> decide⟩
end Go.Proofs.Ytkdnkjjnmadhgaa.Dev
