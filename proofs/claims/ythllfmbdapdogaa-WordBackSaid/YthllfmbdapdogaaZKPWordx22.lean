-- Written by a program of this session (wip/p2/p2.py) on the kit's print: the machine's side of the law; nothing in it is trusted, Lean checks it.
import Derived.Test.YthllfmbdapdogaaZKPWordx0
import Derived.Test.YthllfmbdapdogaaZKPWordx6
import Derived.Test.YthllfmbdapdogaaZKPWordx7
import Derived.Test.YthllfmbdapdogaaZKPWordx8
import Derived.Test.YthllfmbdapdogaaZKPWordx14
import Derived.Test.YthllfmbdapdogaaZKPWordx16
import Derived.Test.YthllfmbdapdogaaZKPWordx19
import Derived.Test.YthllfmbdapdogaaZKPWordx20
import Derived.Test.YthllfmbdapdogaaZKPWordx21
namespace Go.Proofs.Ythllfmbdapdogaa.PWord
open Go.RowKit Go.Proofs.YthllfmbdapdogaaW.PrintWords Go.Proofs.YthllfmbdapdogaaW.PrintLast Go.Proofs.YthllfmbdapdogaaW.PrintMore
attribute [local go_sem] max2_int min2_int max_two min_two max_three min_three max_four min_four   -- for this text's walks alone
set_option linter.unusedVariables false
set_option linter.unusedSimpArgs false

/-! ### bluebelllaw01_WordBack: function 12 -/
mutual
def bluebelllaw01_WordBack.j0 : Nat → ByteArray → List Int → Int → Int → Bool → Int → Bool → Option (Bool)
  | 0, _, _, _, _, _, _, _ => none
  | k + 1, x0, x1, x2, x3, x35, x468000, x468001 => if x35 = true then (some true) else ((word_Pack.f k x0 x468000 x468001).bind fun bt469 => ((bluebellref00_CopyInts.f bt469.1).bind fun t473 => (if t473.length + x1.length < 17592186044416 then ((word_Unpack.f k (t473 ++ x1) x468000 x468001).bind fun bt479 => (if bt469.2 = 0 then (if bt479.2 = 0 then (if bt479.1.toList = x0.toList then (bluebelllaw01_WordBack.j1 k x1 x2 x3 (decide ((bt469.1.length : Int) > (wrap64 ((wrap64 ((x0.size : Int) / 2)) + 1)))) x468000 x468001) else (bluebelllaw01_WordBack.j1 k x1 x2 x3 true x468000 x468001)) else (bluebelllaw01_WordBack.j1 k x1 x2 x3 true x468000 x468001)) else (bluebelllaw01_WordBack.j1 k x1 x2 x3 true x468000 x468001))) else (none))))
def bluebelllaw01_WordBack.j1 : Nat → List Int → Int → Int → Bool → Int → Bool → Option (Bool)
  | 0, _, _, _, _, _, _ => none
  | k + 1, x1, x2, x3, x70, x468000, x468001 => if x70 = true then (some false) else ((word_Bytes.f k x1 x468000 x468001).bind fun bt481 => ((word_Words.f k bt481.1 x468000 x468001).bind fun bt485 => (if bt481.2 = 0 then (if bt485.2 = 0 then (bluebelllaw01_WordBack.j2 k x1 x2 x3 bt481.1 bt485.1 ((bt485.1.length : Int) != (x1.length : Int)) x468000 x468001) else (bluebelllaw01_WordBack.j2 k x1 x2 x3 bt481.1 bt485.1 true x468000 x468001)) else (bluebelllaw01_WordBack.j2 k x1 x2 x3 bt481.1 bt485.1 true x468000 x468001))))
def bluebelllaw01_WordBack.j2 : Nat → List Int → Int → Int → List Int → List Int → Bool → Int → Bool → Option (Bool)
  | 0, _, _, _, _, _, _, _, _ => none
  | k + 1, x1, x2, x3, x15, x16, x95, x468000, x468001 => if x95 = true then (some false) else (bluebelllaw01_WordBack.l0 k x1 x2 x3 x15 x16 0 x468000 x468001)
def bluebelllaw01_WordBack.l0 : Nat → List Int → Int → Int → List Int → List Int → Int → Int → Bool → Option (Bool)
  | 0, _, _, _, _, _, _, _, _ => none
  | k + 1, x1, x2, x3, x15, x16, x17, x468000, x468001 => if x17 < (x16.length : Int) then (if 0 ≤ x17 then (if x17 < (x1.length : Int) then ((bluebellref01_Word.f k (rd x1 x17) x468000).bind fun t491 => (if (rd x16 x17) = t491 then (bluebelllaw01_WordBack.l0 k x1 x2 x3 x15 x16 (wrap64 (x17 + 1)) x468000 x468001) else (some false))) else (none)) else (none)) else ((word_PutByte.f k x1 x2 x3 x468000 x468001).bind fun bt492 => (if bt492.2 = 0 then (bluebelllaw01_WordBack.l1 k x2 x3 x15 bt492.1 0 x468000 x468001) else ((bluebelllaw01_awake.f k).bind fun t496 => (some t496))))
def bluebelllaw01_WordBack.l1 : Nat → Int → Int → List Int → List Int → Int → Int → Bool → Option (Bool)
  | 0, _, _, _, _, _, _, _ => none
  | k + 1, x2, x3, x15, x18, x19, x468000, x468001 => if x19 < (x15.length : Int) then ((word_GetByte.f x18 x19 x468000 x468001).bind fun bt498 => (if 0 ≤ x19 then (if x19 = x2 then (if bt498.2 = 0 then (if bt498.1 = (Go.bits .and .i64 x3 255) then (bluebelllaw01_WordBack.l1 k x2 x3 x15 x18 (wrap64 (x19 + 1)) x468000 x468001) else (some false)) else (some false)) else (if bt498.2 = 0 then (if bt498.1 = (wrap64 (rd x15 x19)) then (bluebelllaw01_WordBack.l1 k x2 x3 x15 x18 (wrap64 (x19 + 1)) x468000 x468001) else (some false)) else (some false))) else (none))) else ((bluebelllaw01_awake.f k).bind fun t497 => (some t497))
end
def bluebelllaw01_WordBack.f (k : Nat) (a0 : ByteArray) (l1 : List Int) (a2 : Int) (a3 : Int) (a4_0 : Int) (a4_1 : Bool) : Option (Bool) := (bluebellref01_Valid.f a4_0 a4_1).bind fun t468 => (if t468 = true then (if (a0.size : Int) > 255 then (bluebelllaw01_WordBack.j0 k a0 l1 a2 a3 true a4_0 a4_1) else (bluebelllaw01_WordBack.j0 k a0 l1 a2 a3 (decide ((l1.length : Int) > 100)) a4_0 a4_1)) else (bluebelllaw01_WordBack.j0 k a0 l1 a2 a3 true a4_0 a4_1))
theorem bluebelllaw01_WordBack.mono_l : ∀ k, (∀ y0 y1 y2 y3 y4 y5 y6, LeO (bluebelllaw01_WordBack.j0 k y0 y1 y2 y3 y4 y5 y6) (bluebelllaw01_WordBack.j0 (k + 1) y0 y1 y2 y3 y4 y5 y6)) ∧ (∀ y0 y1 y2 y3 y4 y5, LeO (bluebelllaw01_WordBack.j1 k y0 y1 y2 y3 y4 y5) (bluebelllaw01_WordBack.j1 (k + 1) y0 y1 y2 y3 y4 y5)) ∧ (∀ y0 y1 y2 y3 y4 y5 y6 y7, LeO (bluebelllaw01_WordBack.j2 k y0 y1 y2 y3 y4 y5 y6 y7) (bluebelllaw01_WordBack.j2 (k + 1) y0 y1 y2 y3 y4 y5 y6 y7)) ∧ (∀ y0 y1 y2 y3 y4 y5 y6 y7, LeO (bluebelllaw01_WordBack.l0 k y0 y1 y2 y3 y4 y5 y6 y7) (bluebelllaw01_WordBack.l0 (k + 1) y0 y1 y2 y3 y4 y5 y6 y7)) ∧ (∀ y0 y1 y2 y3 y4 y5 y6, LeO (bluebelllaw01_WordBack.l1 k y0 y1 y2 y3 y4 y5 y6) (bluebelllaw01_WordBack.l1 (k + 1) y0 y1 y2 y3 y4 y5 y6))
  | 0 => ⟨fun _ _ _ _ _ _ _ r h => by simp [bluebelllaw01_WordBack.j0] at h, fun _ _ _ _ _ _ r h => by simp [bluebelllaw01_WordBack.j1] at h, fun _ _ _ _ _ _ _ _ r h => by simp [bluebelllaw01_WordBack.j2] at h, fun _ _ _ _ _ _ _ _ r h => by simp [bluebelllaw01_WordBack.l0] at h, fun _ _ _ _ _ _ _ r h => by simp [bluebelllaw01_WordBack.l1] at h⟩
  | k + 1 => by
    obtain ⟨ih0, ih1, ih2, ih3, ih4⟩ := bluebelllaw01_WordBack.mono_l k
    refine ⟨?_, ?_, ?_, ?_, ?_⟩
    · intro y0 y1 y2 y3 y4 y5 y6
      unfold bluebelllaw01_WordBack.j0
      repeat' first
      | (with_reducible exact ih0 _ _ _ _ _ _ _)
      | (with_reducible exact ih1 _ _ _ _ _ _)
      | (with_reducible exact ih2 _ _ _ _ _ _ _ _)
      | (with_reducible exact ih3 _ _ _ _ _ _ _ _)
      | (with_reducible exact ih4 _ _ _ _ _ _ _)
      | (with_reducible exact bluebelllaw01_awake.mono _)
      | (with_reducible exact bluebellref01_Word.mono _ _ _)
      | (with_reducible exact word_Bytes.mono _ _ _ _)
      | (with_reducible exact word_Pack.mono _ _ _ _)
      | (with_reducible exact word_PutByte.mono _ _ _ _ _ _)
      | (with_reducible exact word_Unpack.mono _ _ _ _)
      | (with_reducible exact word_Words.mono _ _ _ _)
      | (with_reducible exact LeO.refl _)
      | (with_reducible exact LeO.none _)
      | (with_reducible refine LeO.ite ?_ ?_)
      | (with_reducible refine LeO.bind ?_ (fun _ => ?_))
      | exact ih0 _ _ _ _ _ _ _
      | exact ih1 _ _ _ _ _ _
      | exact ih2 _ _ _ _ _ _ _ _
      | exact ih3 _ _ _ _ _ _ _ _
      | exact ih4 _ _ _ _ _ _ _
      | exact bluebelllaw01_awake.mono _
      | exact bluebellref01_Word.mono _ _ _
      | exact word_Bytes.mono _ _ _ _
      | exact word_Pack.mono _ _ _ _
      | exact word_PutByte.mono _ _ _ _ _ _
      | exact word_Unpack.mono _ _ _ _
      | exact word_Words.mono _ _ _ _
      | exact LeO.none _
      | refine LeO.ite ?_ ?_
      | refine LeO.bind ?_ (fun _ => ?_)
    · intro y0 y1 y2 y3 y4 y5
      unfold bluebelllaw01_WordBack.j1
      repeat' first
      | (with_reducible exact ih0 _ _ _ _ _ _ _)
      | (with_reducible exact ih1 _ _ _ _ _ _)
      | (with_reducible exact ih2 _ _ _ _ _ _ _ _)
      | (with_reducible exact ih3 _ _ _ _ _ _ _ _)
      | (with_reducible exact ih4 _ _ _ _ _ _ _)
      | (with_reducible exact bluebelllaw01_awake.mono _)
      | (with_reducible exact bluebellref01_Word.mono _ _ _)
      | (with_reducible exact word_Bytes.mono _ _ _ _)
      | (with_reducible exact word_Pack.mono _ _ _ _)
      | (with_reducible exact word_PutByte.mono _ _ _ _ _ _)
      | (with_reducible exact word_Unpack.mono _ _ _ _)
      | (with_reducible exact word_Words.mono _ _ _ _)
      | (with_reducible exact LeO.refl _)
      | (with_reducible exact LeO.none _)
      | (with_reducible refine LeO.ite ?_ ?_)
      | (with_reducible refine LeO.bind ?_ (fun _ => ?_))
      | exact ih0 _ _ _ _ _ _ _
      | exact ih1 _ _ _ _ _ _
      | exact ih2 _ _ _ _ _ _ _ _
      | exact ih3 _ _ _ _ _ _ _ _
      | exact ih4 _ _ _ _ _ _ _
      | exact bluebelllaw01_awake.mono _
      | exact bluebellref01_Word.mono _ _ _
      | exact word_Bytes.mono _ _ _ _
      | exact word_Pack.mono _ _ _ _
      | exact word_PutByte.mono _ _ _ _ _ _
      | exact word_Unpack.mono _ _ _ _
      | exact word_Words.mono _ _ _ _
      | exact LeO.none _
      | refine LeO.ite ?_ ?_
      | refine LeO.bind ?_ (fun _ => ?_)
    · intro y0 y1 y2 y3 y4 y5 y6 y7
      unfold bluebelllaw01_WordBack.j2
      repeat' first
      | (with_reducible exact ih0 _ _ _ _ _ _ _)
      | (with_reducible exact ih1 _ _ _ _ _ _)
      | (with_reducible exact ih2 _ _ _ _ _ _ _ _)
      | (with_reducible exact ih3 _ _ _ _ _ _ _ _)
      | (with_reducible exact ih4 _ _ _ _ _ _ _)
      | (with_reducible exact bluebelllaw01_awake.mono _)
      | (with_reducible exact bluebellref01_Word.mono _ _ _)
      | (with_reducible exact word_Bytes.mono _ _ _ _)
      | (with_reducible exact word_Pack.mono _ _ _ _)
      | (with_reducible exact word_PutByte.mono _ _ _ _ _ _)
      | (with_reducible exact word_Unpack.mono _ _ _ _)
      | (with_reducible exact word_Words.mono _ _ _ _)
      | (with_reducible exact LeO.refl _)
      | (with_reducible exact LeO.none _)
      | (with_reducible refine LeO.ite ?_ ?_)
      | (with_reducible refine LeO.bind ?_ (fun _ => ?_))
      | exact ih0 _ _ _ _ _ _ _
      | exact ih1 _ _ _ _ _ _
      | exact ih2 _ _ _ _ _ _ _ _
      | exact ih3 _ _ _ _ _ _ _ _
      | exact ih4 _ _ _ _ _ _ _
      | exact bluebelllaw01_awake.mono _
      | exact bluebellref01_Word.mono _ _ _
      | exact word_Bytes.mono _ _ _ _
      | exact word_Pack.mono _ _ _ _
      | exact word_PutByte.mono _ _ _ _ _ _
      | exact word_Unpack.mono _ _ _ _
      | exact word_Words.mono _ _ _ _
      | exact LeO.none _
      | refine LeO.ite ?_ ?_
      | refine LeO.bind ?_ (fun _ => ?_)
    · intro y0 y1 y2 y3 y4 y5 y6 y7
      unfold bluebelllaw01_WordBack.l0
      repeat' first
      | (with_reducible exact ih0 _ _ _ _ _ _ _)
      | (with_reducible exact ih1 _ _ _ _ _ _)
      | (with_reducible exact ih2 _ _ _ _ _ _ _ _)
      | (with_reducible exact ih3 _ _ _ _ _ _ _ _)
      | (with_reducible exact ih4 _ _ _ _ _ _ _)
      | (with_reducible exact bluebelllaw01_awake.mono _)
      | (with_reducible exact bluebellref01_Word.mono _ _ _)
      | (with_reducible exact word_Bytes.mono _ _ _ _)
      | (with_reducible exact word_Pack.mono _ _ _ _)
      | (with_reducible exact word_PutByte.mono _ _ _ _ _ _)
      | (with_reducible exact word_Unpack.mono _ _ _ _)
      | (with_reducible exact word_Words.mono _ _ _ _)
      | (with_reducible exact LeO.refl _)
      | (with_reducible exact LeO.none _)
      | (with_reducible refine LeO.ite ?_ ?_)
      | (with_reducible refine LeO.bind ?_ (fun _ => ?_))
      | exact ih0 _ _ _ _ _ _ _
      | exact ih1 _ _ _ _ _ _
      | exact ih2 _ _ _ _ _ _ _ _
      | exact ih3 _ _ _ _ _ _ _ _
      | exact ih4 _ _ _ _ _ _ _
      | exact bluebelllaw01_awake.mono _
      | exact bluebellref01_Word.mono _ _ _
      | exact word_Bytes.mono _ _ _ _
      | exact word_Pack.mono _ _ _ _
      | exact word_PutByte.mono _ _ _ _ _ _
      | exact word_Unpack.mono _ _ _ _
      | exact word_Words.mono _ _ _ _
      | exact LeO.none _
      | refine LeO.ite ?_ ?_
      | refine LeO.bind ?_ (fun _ => ?_)
    · intro y0 y1 y2 y3 y4 y5 y6
      unfold bluebelllaw01_WordBack.l1
      repeat' first
      | (with_reducible exact ih0 _ _ _ _ _ _ _)
      | (with_reducible exact ih1 _ _ _ _ _ _)
      | (with_reducible exact ih2 _ _ _ _ _ _ _ _)
      | (with_reducible exact ih3 _ _ _ _ _ _ _ _)
      | (with_reducible exact ih4 _ _ _ _ _ _ _)
      | (with_reducible exact bluebelllaw01_awake.mono _)
      | (with_reducible exact bluebellref01_Word.mono _ _ _)
      | (with_reducible exact word_Bytes.mono _ _ _ _)
      | (with_reducible exact word_Pack.mono _ _ _ _)
      | (with_reducible exact word_PutByte.mono _ _ _ _ _ _)
      | (with_reducible exact word_Unpack.mono _ _ _ _)
      | (with_reducible exact word_Words.mono _ _ _ _)
      | (with_reducible exact LeO.refl _)
      | (with_reducible exact LeO.none _)
      | (with_reducible refine LeO.ite ?_ ?_)
      | (with_reducible refine LeO.bind ?_ (fun _ => ?_))
      | exact ih0 _ _ _ _ _ _ _
      | exact ih1 _ _ _ _ _ _
      | exact ih2 _ _ _ _ _ _ _ _
      | exact ih3 _ _ _ _ _ _ _ _
      | exact ih4 _ _ _ _ _ _ _
      | exact bluebelllaw01_awake.mono _
      | exact bluebellref01_Word.mono _ _ _
      | exact word_Bytes.mono _ _ _ _
      | exact word_Pack.mono _ _ _ _
      | exact word_PutByte.mono _ _ _ _ _ _
      | exact word_Unpack.mono _ _ _ _
      | exact word_Words.mono _ _ _ _
      | exact LeO.none _
      | refine LeO.ite ?_ ?_
      | refine LeO.bind ?_ (fun _ => ?_)
theorem bluebelllaw01_WordBack.mono : ∀ a0 a1 a2 a3 a4 a5 k, LeO (bluebelllaw01_WordBack.f k a0 a1 a2 a3 a4 a5) (bluebelllaw01_WordBack.f (k + 1) a0 a1 a2 a3 a4 a5) := by
  intro a0 a1 a2 a3 a4 a5 k
  obtain ⟨ih0, ih1, ih2, ih3, ih4⟩ := bluebelllaw01_WordBack.mono_l k
  unfold bluebelllaw01_WordBack.f
  repeat' first
      | (with_reducible exact ih0 _ _ _ _ _ _ _)
      | (with_reducible exact ih1 _ _ _ _ _ _)
      | (with_reducible exact ih2 _ _ _ _ _ _ _ _)
      | (with_reducible exact ih3 _ _ _ _ _ _ _ _)
      | (with_reducible exact ih4 _ _ _ _ _ _ _)
      | (with_reducible exact bluebelllaw01_awake.mono _)
      | (with_reducible exact bluebellref01_Word.mono _ _ _)
      | (with_reducible exact word_Bytes.mono _ _ _ _)
      | (with_reducible exact word_Pack.mono _ _ _ _)
      | (with_reducible exact word_PutByte.mono _ _ _ _ _ _)
      | (with_reducible exact word_Unpack.mono _ _ _ _)
      | (with_reducible exact word_Words.mono _ _ _ _)
      | (with_reducible exact LeO.refl _)
      | (with_reducible exact LeO.none _)
      | (with_reducible refine LeO.ite ?_ ?_)
      | (with_reducible refine LeO.bind ?_ (fun _ => ?_))
      | exact ih0 _ _ _ _ _ _ _
      | exact ih1 _ _ _ _ _ _
      | exact ih2 _ _ _ _ _ _ _ _
      | exact ih3 _ _ _ _ _ _ _ _
      | exact ih4 _ _ _ _ _ _ _
      | exact bluebelllaw01_awake.mono _
      | exact bluebellref01_Word.mono _ _ _
      | exact word_Bytes.mono _ _ _ _
      | exact word_Pack.mono _ _ _ _
      | exact word_PutByte.mono _ _ _ _ _ _
      | exact word_Unpack.mono _ _ _ _
      | exact word_Words.mono _ _ _ _
      | exact LeO.none _
      | refine LeO.ite ?_ ?_
      | refine LeO.bind ?_ (fun _ => ?_)
def bluebelllaw01_WordBack.T4 : Bool × List (List Nat × List Nat) := (true, [([], []), ([0], [0]), ([], []), ([1, 2, 1], [1, 2]), ([], []), ([3, 4, 3], [3, 4]), ([5], [5]), ([6], [6]), ([6], [6]), ([7, 5, 0, 1, 2, 3, 4, 5, 6, 7], [7]), ([8, 9, 0, 1, 2, 3, 4, 5, 6, 7, 8, 9], [8])])
def bluebelllaw01_WordBack.B4 : List Nat := [0, 1, 0, 7, 0, 31, 63, 127, 127, 255, 1023]
theorem bluebelllaw01_WordBack.tab4 : rtab .any (opsOf Try.f12 4) = bluebelllaw01_WordBack.T4 := by kernel_rfl
theorem bluebelllaw01_WordBack.bits4 : waitsOk bluebelllaw01_WordBack.T4.2 bluebelllaw01_WordBack.B4 = true := by kernel_rfl
def bluebelllaw01_WordBack.T14 : Bool × List (List Nat × List Nat) := (true, [([], []), ([], []), ([0, 1], [0, 1]), ([2], [2]), ([], []), ([], []), ([4, 5], [4, 5]), ([6], [6]), ([], []), ([8], [8]), ([7, 9], [7, 9]), ([3, 10], [3, 10])])
def bluebelllaw01_WordBack.B14 : List Nat := [0, 0, 3, 7, 0, 0, 48, 112, 0, 256, 1008, 2047]
theorem bluebelllaw01_WordBack.tab14 : rtab .any (opsOf Try.f12 14) = bluebelllaw01_WordBack.T14 := by kernel_rfl
theorem bluebelllaw01_WordBack.bits14 : waitsOk bluebelllaw01_WordBack.T14.2 bluebelllaw01_WordBack.B14 = true := by kernel_rfl
set_option maxHeartbeats 8000000 in
set_option maxRecDepth 100000 in
theorem bluebelllaw01_WordBack.calls (k : Nat) (a0 : ByteArray) (A1 : Option Addr) (c1 : Nat) (l1 : List Int) (a2 : Int) (a3 : Int) (a4_0 : Int) (a4_1 : Bool) (r : Bool) (w : World) (hr1 : Kd.C (Kd.int .i64) w A1 l1.length l1) (hc1 : l1.length ≤ c1) (h : bluebelllaw01_WordBack.f k a0 l1 a2 a3 a4_0 a4_1 = some r) :
    Calls Try.prog 12 #[.string a0, .slice A1 l1.length c1, .int .i64 a2, .int .i64 a3, .agg #[.int .i64 a4_0, .bool a4_1]] w fun e w' => e = .returned (.bool r) ∧ Below w.heap.size w w' := by
  have hu37 := Try.underlying37
  have HR1 := Aside0.mk hr1
  have HC1 := Aside0.mk hc1
  clear hr1 hc1
  have HB := Aside0.mk (Below.refl w.heap.size w)
  have H : ((bluebellref01_Valid.f a4_0 a4_1).bind fun t468 => (if t468 = true then (if (a0.size : Int) > 255 then (bluebelllaw01_WordBack.j0 k a0 l1 a2 a3 true a4_0 a4_1) else (bluebelllaw01_WordBack.j0 k a0 l1 a2 a3 (decide ((l1.length : Int) > 100)) a4_0 a4_1)) else (bluebelllaw01_WordBack.j0 k a0 l1 a2 a3 true a4_0 a4_1))) = some r := h
  clear h
  have HC6 := Aside0.mk H
  clear H
  go_enter Try.func12, Try.ntmps12
  go_upto_region 1 with (first | ((with_reducible refine gate_dst (N := 9) rfl ?_); (try (refine gate_guard (by rfl) ?_; dsimp only)); refine box_event ?hg (N := 9) ?hd (cs := #[.int .i64 a4_0, .bool a4_1]) (t := 37) ?hr ?_; (case hd => rfl); (case hg => rfl); (case hr => first | (go_simp; done) | (go_simp; rfl)); intro gb467 hg w7 hbox hb; have n0_ := Aside0.mk (below_step (by repeat (first | (with_reducible first | exact HB.out | apply below_alloc | apply pw_below_drewN | apply below_drew1) | exact HB.out)) hb); have n1_ := Aside0.mk (hbox); have n2_ := Aside0.mk ((by rw [hg]; exact (below_size (by repeat (first | (with_reducible first | exact HB.out | apply below_alloc | apply pw_below_drewN | apply below_drew1) | exact HB.out))) : w.heap.size ≤ gb467)); have n3_ := Aside0.mk ((by rw [hg]; exact (below_size (by repeat (first | (with_reducible first | exact HB.out | apply below_alloc | apply pw_below_drewN | apply below_drew1) | exact HB.out))) : w.heap.size ≤ gb467)); clear HB; have HB := n0_; have BK467 := n1_; have GW467 := n2_; have GE467 := n3_; clear n0_ n1_ n2_ n3_; clear hb hbox hg))
  (try simp only [Act.put, List.setIfInBounds_toArray, List.set_cons_zero, List.set_cons_succ])
  go_cut [35] (fun v35 wc => ∃ (kq : Nat) (x35_5 : Bool), v35 = .bool x35_5 ∧ Aside0 (bluebelllaw01_WordBack.j0 kq a0 l1 a2 a3 x35_5 a4_0 a4_1 = some r) ∧ Aside0 (kq ≤ k) ∧ Aside0 (wc.heap[gb467]? = some (.cells #[.int .i64 a4_0, .bool a4_1] 37 (0, 0))) ∧ Aside0 (Below w.heap.size w wc))
  case first =>
    have H := HC6.out
    clear HC6
    replace H := Option.bind_eq_some_iff.mp H
    obtain ⟨t468, A80, H⟩ := H
    replace H : (if t468 = true then (if (a0.size : Int) > 255 then (bluebelllaw01_WordBack.j0 k a0 l1 a2 a3 true a4_0 a4_1) else (bluebelllaw01_WordBack.j0 k a0 l1 a2 a3 (decide ((l1.length : Int) > 100)) a4_0 a4_1)) else (bluebelllaw01_WordBack.j0 k a0 l1 a2 a3 true a4_0 a4_1)) = some r := H
    have A8 := Aside0.mk A80
    clear A80
    by_cases c9 : t468 = true
    · subst c9
      have H1 : (if (a0.size : Int) > 255 then (bluebelllaw01_WordBack.j0 k a0 l1 a2 a3 true a4_0 a4_1) else (bluebelllaw01_WordBack.j0 k a0 l1 a2 a3 (decide ((l1.length : Int) > 100)) a4_0 a4_1)) = some r := by rw [if_pos rfl] at H; exact H
      clear H
      have H := H1
      clear H1
      by_cases c10 : (a0.size : Int) > 255
      · rw [if_pos c10] at H
        have c10b0 : decide (255 < (a0.size : Int)) = true := decide_eq_true c10
        have c10b1 : decide (255 < a0.size) = true := decide_eq_true (by omega)
        clear c10
        (first | rw [c10b0] | (simp only [i64_w, i32_w]; rw [c10b0]) | skip)
        have H' := Aside0.mk H
        clear H
        have hcz11_0 : w7.cell? ⟨gb467, 0, none⟩ = some (.int .i64 a4_0) := (blk_cell BK467.out 0).trans rfl
        have hcz11_1 : w7.cell? ⟨gb467, 1, none⟩ = some (.bool a4_1) := (blk_cell BK467.out 1).trans rfl
        have hfz11_0 := blk_frozen BK467.out 0
        have hfz11_1 := blk_frozen BK467.out 1
        go_wp2_with (first | ((with_reducible refine gate_callee (f := 42) rfl ?_); refine goesL_ (some 24) rfl rfl Try.func42 (by kernel_rfl) rfl #[.agg #[.int .i64 a4_0, .bool a4_1]] rfl (by (try simp only [List.map_toArray, List.map_cons, List.map_nil]); first | done | rfl | (simp only [List.length_drop, List.length_take]; rfl)) ?_; (with_reducible refine (bluebellref01_Valid.calls a4_0 a4_1 true _ A8.out).mono ?_); rintro e w12 ⟨rfl, hb⟩; refine ⟨_, rfl, ?_⟩; have n0_ := Aside0.mk (blk_below (g := gb467) (o := .cells #[.int .i64 a4_0, .bool a4_1] 37 (0, 0)) (by (with_reducible repeat (first | refine blk_drewN ?_ _ | refine blk_drew ?_ | refine blk_alloc ?_ _)); exact BK467.out) hb); have n1_ := Aside0.mk (below_step (by repeat (first | (with_reducible first | exact HB.out | apply below_alloc | apply pw_below_drewN | apply below_drew1 | refine below_set ?_ GE467.out) | exact HB.out)) hb); clear BK467; clear HB; have BK467 := n0_; have HB := n1_; clear n0_ n1_; (try clear hb); (try clear hb2); (try clear hk); (try clear hi)))
        go_meet
        case rel => exact ⟨_, (true), (by first | rfl | (simp; done) | (simp [*]; done)), H', ⟨by first | omega | exact Nat.le_refl _⟩, ⟨by (with_reducible repeat (first | refine blk_drewN ?_ _ | refine blk_drew ?_ | refine blk_alloc ?_ _)); exact BK467.out⟩, ⟨by repeat (first | (with_reducible first | exact HB.out | apply below_alloc | apply pw_below_drewN | apply below_drew1 | refine below_set ?_ GE467.out) | exact HB.out)⟩⟩
      · rw [if_neg c10] at H
        have c10b0 : decide (255 < (a0.size : Int)) = false := decide_eq_false c10
        have c10b1 : decide (255 < a0.size) = false := decide_eq_false (by omega)
        clear c10
        (first | rw [c10b0] | (simp only [i64_w, i32_w]; rw [c10b0]) | skip)
        have H' := Aside0.mk H
        clear H
        have hcz13_0 : w7.cell? ⟨gb467, 0, none⟩ = some (.int .i64 a4_0) := (blk_cell BK467.out 0).trans rfl
        have hcz13_1 : w7.cell? ⟨gb467, 1, none⟩ = some (.bool a4_1) := (blk_cell BK467.out 1).trans rfl
        have hfz13_0 := blk_frozen BK467.out 0
        have hfz13_1 := blk_frozen BK467.out 1
        go_wp2_with (first | ((with_reducible refine gate_callee (f := 42) rfl ?_); refine goesL_ (some 24) rfl rfl Try.func42 (by kernel_rfl) rfl #[.agg #[.int .i64 a4_0, .bool a4_1]] rfl (by (try simp only [List.map_toArray, List.map_cons, List.map_nil]); first | done | rfl | (simp only [List.length_drop, List.length_take]; rfl)) ?_; (with_reducible refine (bluebellref01_Valid.calls a4_0 a4_1 true _ A8.out).mono ?_); rintro e w14 ⟨rfl, hb⟩; refine ⟨_, rfl, ?_⟩; have n0_ := Aside0.mk (blk_below (g := gb467) (o := .cells #[.int .i64 a4_0, .bool a4_1] 37 (0, 0)) (by (with_reducible repeat (first | refine blk_drewN ?_ _ | refine blk_drew ?_ | refine blk_alloc ?_ _)); exact BK467.out) hb); have n1_ := Aside0.mk (below_step (by repeat (first | (with_reducible first | exact HB.out | apply below_alloc | apply pw_below_drewN | apply below_drew1 | refine below_set ?_ GE467.out) | exact HB.out)) hb); clear BK467; clear HB; have BK467 := n0_; have HB := n1_; clear n0_ n1_; (try clear hb); (try clear hb2); (try clear hk); (try clear hi)))
        go_meet
        case rel => exact ⟨_, (decide ((l1.length : Int) > 100)), (by first | rfl | (simp; done) | (simp [*]; done)), H', ⟨by first | omega | exact Nat.le_refl _⟩, ⟨by (with_reducible repeat (first | refine blk_drewN ?_ _ | refine blk_drew ?_ | refine blk_alloc ?_ _)); exact BK467.out⟩, ⟨by repeat (first | (with_reducible first | exact HB.out | apply below_alloc | apply pw_below_drewN | apply below_drew1 | refine below_set ?_ GE467.out) | exact HB.out)⟩⟩
    · replace c9 := Bool.eq_false_iff.mpr c9
      subst c9
      have H1 : (bluebelllaw01_WordBack.j0 k a0 l1 a2 a3 true a4_0 a4_1) = some r := by rw [if_neg (show ¬ (false = true) by decide)] at H; exact H
      clear H
      have H := H1
      clear H1
      have H' := Aside0.mk H
      clear H
      have hcz15_0 : w7.cell? ⟨gb467, 0, none⟩ = some (.int .i64 a4_0) := (blk_cell BK467.out 0).trans rfl
      have hcz15_1 : w7.cell? ⟨gb467, 1, none⟩ = some (.bool a4_1) := (blk_cell BK467.out 1).trans rfl
      have hfz15_0 := blk_frozen BK467.out 0
      have hfz15_1 := blk_frozen BK467.out 1
      go_wp2_with (first | ((with_reducible refine gate_callee (f := 42) rfl ?_); refine goesL_ (some 24) rfl rfl Try.func42 (by kernel_rfl) rfl #[.agg #[.int .i64 a4_0, .bool a4_1]] rfl (by (try simp only [List.map_toArray, List.map_cons, List.map_nil]); first | done | rfl | (simp only [List.length_drop, List.length_take]; rfl)) ?_; (with_reducible refine (bluebellref01_Valid.calls a4_0 a4_1 false _ A8.out).mono ?_); rintro e w16 ⟨rfl, hb⟩; refine ⟨_, rfl, ?_⟩; have n0_ := Aside0.mk (blk_below (g := gb467) (o := .cells #[.int .i64 a4_0, .bool a4_1] 37 (0, 0)) (by (with_reducible repeat (first | refine blk_drewN ?_ _ | refine blk_drew ?_ | refine blk_alloc ?_ _)); exact BK467.out) hb); have n1_ := Aside0.mk (below_step (by repeat (first | (with_reducible first | exact HB.out | apply below_alloc | apply pw_below_drewN | apply below_drew1 | refine below_set ?_ GE467.out) | exact HB.out)) hb); clear BK467; clear HB; have BK467 := n0_; have HB := n1_; clear n0_ n1_; (try clear hb); (try clear hb2); (try clear hk); (try clear hi)))
      go_meet
      case rel => exact ⟨_, (true), (by first | rfl | (simp; done) | (simp [*]; done)), H', ⟨by first | omega | exact Nat.le_refl _⟩, ⟨by (with_reducible repeat (first | refine blk_drewN ?_ _ | refine blk_drew ?_ | refine blk_alloc ?_ _)); exact BK467.out⟩, ⟨by repeat (first | (with_reducible first | exact HB.out | apply below_alloc | apply pw_below_drewN | apply below_drew1 | refine below_set ?_ GE467.out) | exact HB.out)⟩⟩
  case rest =>
    clear HC6
    try clear c1
    try clear p2
    try clear c4
    try clear c9
    try clear c10
    try clear c10b0
    try clear c10b1
    try clear c12
    try clear hcz11_0
    try clear hcz11_1
    try clear hcz13_0
    try clear hcz13_1
    try clear hcz15_0
    try clear hcz15_1
    try clear hfz11_0
    try clear hfz11_1
    try clear hfz13_0
    try clear hfz13_1
    try clear hfz15_0
    try clear hfz15_1
    obtain ⟨kq, x35_5, rfl, HA, HJ5, BK467, HB⟩ := hcut
    cases kq with
    | zero => exact absurd HA.out (by simp [bluebelllaw01_WordBack.j0])
    | succ kj5 =>
      have H := HA.out
      clear HA
      simp only [bluebelllaw01_WordBack.j0] at H
      by_cases c17 : x35_5 = true
      · subst c17
        have H1 : (some true) = some r := by rw [if_pos rfl] at H; exact H
        clear H
        have H := H1
        clear H1
        obtain rfl := Option.some.inj H
        go_wp2
        go_ret
        exact ⟨by first | rfl | (simp [errW_none, errW_some] <;> rfl) | (simp [*, errW_none, errW_some] <;> rfl), by repeat (first | (with_reducible first | exact HB.out | apply below_alloc | apply pw_below_drewN | apply below_drew1 | refine below_set ?_ GE467.out) | exact HB.out)⟩
      · replace c17 := Bool.eq_false_iff.mpr c17
        subst c17
        have H1 : ((word_Pack.f kj5 a0 a4_0 a4_1).bind fun bt469 => ((bluebellref00_CopyInts.f bt469.1).bind fun t473 => (if t473.length + l1.length < 17592186044416 then ((word_Unpack.f kj5 (t473 ++ l1) a4_0 a4_1).bind fun bt479 => (if bt469.2 = 0 then (if bt479.2 = 0 then (if bt479.1.toList = a0.toList then (bluebelllaw01_WordBack.j1 kj5 l1 a2 a3 (decide ((bt469.1.length : Int) > (wrap64 ((wrap64 ((a0.size : Int) / 2)) + 1)))) a4_0 a4_1) else (bluebelllaw01_WordBack.j1 kj5 l1 a2 a3 true a4_0 a4_1)) else (bluebelllaw01_WordBack.j1 kj5 l1 a2 a3 true a4_0 a4_1)) else (bluebelllaw01_WordBack.j1 kj5 l1 a2 a3 true a4_0 a4_1))) else (none)))) = some r := by rw [if_neg (show ¬ (false = true) by decide)] at H; exact H
        clear H
        have H := H1
        clear H1
        replace H := Option.bind_eq_some_iff.mp H
        obtain ⟨⟨t469, t472⟩, A180, H⟩ := H
        replace H : ((bluebellref00_CopyInts.f t469).bind fun t473 => (if t473.length + l1.length < 17592186044416 then ((word_Unpack.f kj5 (t473 ++ l1) a4_0 a4_1).bind fun bt479 => (if t472 = 0 then (if bt479.2 = 0 then (if bt479.1.toList = a0.toList then (bluebelllaw01_WordBack.j1 kj5 l1 a2 a3 (decide ((t469.length : Int) > (wrap64 ((wrap64 ((a0.size : Int) / 2)) + 1)))) a4_0 a4_1) else (bluebelllaw01_WordBack.j1 kj5 l1 a2 a3 true a4_0 a4_1)) else (bluebelllaw01_WordBack.j1 kj5 l1 a2 a3 true a4_0 a4_1)) else (bluebelllaw01_WordBack.j1 kj5 l1 a2 a3 true a4_0 a4_1))) else (none))) = some r := H
        have A18 := Aside0.mk A180
        clear A180
        replace H := Option.bind_eq_some_iff.mp H
        obtain ⟨t473, A190, H⟩ := H
        replace H : (if t473.length + l1.length < 17592186044416 then ((word_Unpack.f kj5 (t473 ++ l1) a4_0 a4_1).bind fun bt479 => (if t472 = 0 then (if bt479.2 = 0 then (if bt479.1.toList = a0.toList then (bluebelllaw01_WordBack.j1 kj5 l1 a2 a3 (decide ((t469.length : Int) > (wrap64 ((wrap64 ((a0.size : Int) / 2)) + 1)))) a4_0 a4_1) else (bluebelllaw01_WordBack.j1 kj5 l1 a2 a3 true a4_0 a4_1)) else (bluebelllaw01_WordBack.j1 kj5 l1 a2 a3 true a4_0 a4_1)) else (bluebelllaw01_WordBack.j1 kj5 l1 a2 a3 true a4_0 a4_1))) else (none)) = some r := H
        have A19 := Aside0.mk A190
        clear A190
        by_cases c20 : t473.length + l1.length < 17592186044416
        · rw [if_pos c20] at H
          have LMc20 := Aside0.mk c20
          clear c20
          obtain ⟨y476, hy476⟩ : ∃ y_ : List Int, y_ = (t473 ++ l1) := ⟨_, rfl⟩
          replace H : ((word_Unpack.f kj5 y476 a4_0 a4_1).bind fun bt479 => (if t472 = 0 then (if bt479.2 = 0 then (if bt479.1.toList = a0.toList then (bluebelllaw01_WordBack.j1 kj5 l1 a2 a3 (decide ((t469.length : Int) > (wrap64 ((wrap64 ((a0.size : Int) / 2)) + 1)))) a4_0 a4_1) else (bluebelllaw01_WordBack.j1 kj5 l1 a2 a3 true a4_0 a4_1)) else (bluebelllaw01_WordBack.j1 kj5 l1 a2 a3 true a4_0 a4_1)) else (bluebelllaw01_WordBack.j1 kj5 l1 a2 a3 true a4_0 a4_1))) = some r := by first | (rw [hy476]; with_reducible exact H) | (have H2_ := (Option.bind_some _ _).symm.trans H; rw [hy476]; with_reducible exact H2_) | (have H2_ := (Option.bind_some _ _).symm.trans H; with_reducible exact H2_) | with_reducible exact H | (rw [hy476]; exact H) | exact H
          have Ny476 := Aside0.mk hy476
          clear hy476
          replace H := Option.bind_eq_some_iff.mp H
          obtain ⟨⟨t479, t480⟩, A210, H⟩ := H
          replace H : (if t472 = 0 then (if t480 = 0 then (if t479.toList = a0.toList then (bluebelllaw01_WordBack.j1 kj5 l1 a2 a3 (decide ((t469.length : Int) > (wrap64 ((wrap64 ((a0.size : Int) / 2)) + 1)))) a4_0 a4_1) else (bluebelllaw01_WordBack.j1 kj5 l1 a2 a3 true a4_0 a4_1)) else (bluebelllaw01_WordBack.j1 kj5 l1 a2 a3 true a4_0 a4_1)) else (bluebelllaw01_WordBack.j1 kj5 l1 a2 a3 true a4_0 a4_1)) = some r := H
          have A21 := Aside0.mk A210
          clear A210
          have HC22 := Aside0.mk H
          clear H
          have hcz23_0 : wc.cell? ⟨gb467, 0, none⟩ = some (.int .i64 a4_0) := (blk_cell BK467.out 0).trans rfl
          have hcz23_1 : wc.cell? ⟨gb467, 1, none⟩ = some (.bool a4_1) := (blk_cell BK467.out 1).trans rfl
          have hfz23_0 := blk_frozen BK467.out 0
          have hfz23_1 := blk_frozen BK467.out 1
          try go_wp2_with (first | ((with_reducible refine gate_callee (f := 33) rfl ?_); refine goesL_ (some 39) rfl rfl Try.func33 (by kernel_rfl) rfl #[.string a0, .agg #[.int .i64 a4_0, .bool a4_1]] rfl (by (try simp only [List.map_toArray, List.map_cons, List.map_nil]); first | done | rfl | (simp only [List.length_drop, List.length_take]; rfl)) ?_; (with_reducible refine (word_Pack.calls kj5 a0 a4_0 a4_1 t469 t472 _ A18.out).mono ?_); rintro e w24 ⟨v470, rfl, ho0, hb⟩; refine ⟨_, rfl, ?_⟩; have n0_ := Aside0.mk (Kd.R_lower ho0 (below_size (by repeat (first | (with_reducible first | exact HB.out | apply below_alloc | apply pw_below_drewN | apply below_drew1 | refine below_set ?_ GE467.out) | exact HB.out)))); have n1_ := Aside0.mk (blk_below (g := gb467) (o := .cells #[.int .i64 a4_0, .bool a4_1] 37 (0, 0)) (by (with_reducible repeat (first | refine blk_drewN ?_ _ | refine blk_drew ?_ | refine blk_alloc ?_ _)); exact BK467.out) hb); have n2_ := Aside0.mk (below_step (by repeat (first | (with_reducible first | exact HB.out | apply below_alloc | apply pw_below_drewN | apply below_drew1 | refine below_set ?_ GE467.out) | exact HB.out)) hb); clear BK467; clear HB; have HO471 := n0_; have BK467 := n1_; have HB := n2_; clear n0_ n1_ n2_; (try clear hb); (try clear hb2); (try clear hk); (try clear hi); (try clear ho0)))
          have n0_ := Aside0.mk (Kd.R_drew HO471.out)
          have n1_ := Aside0.mk (blk_drew BK467.out)
          have n2_ := Aside0.mk (below_drew1 HB.out)
          clear HO471
          clear BK467
          clear HB
          have HO471 := n0_
          have BK467 := n1_
          have HB := n2_
          clear n0_ n1_ n2_
          obtain ⟨Ao26, co26, eo26⟩ := Kd.R_slice HO471.out
          (first | subst eo26 | (injection eo26 with f1_ f2_ f3_; have f4_ := f1_.symm; have f5_ := f3_.symm; clear f1_ f2_ f3_; subst f4_; subst f5_))
          refine start_ (n := 11) (S := fun w' => w'.cell? ⟨gb467, 0, none⟩ = some (.int .i64 a4_0) ∧ w'.cell? ⟨gb467, 1, none⟩ = some (.bool a4_1)) (ds := []) #[false, false, false, false, false, false, false, false, false, false, false] (by kernel_rfl) rfl rfl ⟨(blk_cell BK467.out 0).trans rfl, (blk_cell BK467.out 1).trans rfl⟩ (fun hHeld => ?_); refine with_tabW bluebelllaw01_WordBack.tab4 bluebelllaw01_WordBack.bits4 (fun HT_ HW_ => ?_)
          generalize w24.drew = w25 at HO471 BK467 HB hHeld ⊢
          refine pure_ (i := 0) (N := some 43) (v := ?_) (a' := ?_) #[true, false, false, false, false, false, false, false, false, false, false] rfl rfl (any_of HT_.out (by kernel_rfl)) (fun _ _ _ h => h) (Or.inl ⟨by rfl, ?_⟩) ?_ ?_
          rotate_left
          · intro w'
            go_simp
            with_reducible rfl
          rotate_left
          · simp only [Act.put, List.setIfInBounds_toArray, List.set_cons_zero, List.set_cons_succ, i64_w, i32_w]
            rfl
          refine pure_ (i := 2) (N := some 45) (v := ?_) (a' := ?_) #[true, false, true, false, false, false, false, false, false, false, false] rfl rfl (any_of HT_.out (by kernel_rfl)) (fun _ _ _ h => h) (Or.inl ⟨by rfl, ?_⟩) ?_ ?_
          rotate_left
          · intro w'
            go_simp
            with_reducible rfl
          rotate_left
          · simp only [Act.put, List.setIfInBounds_toArray, List.set_cons_zero, List.set_cons_succ, i64_w, i32_w]
            rfl
          refine take_ (i := 4) (N := some 47) (v := ?_) (a' := ?_) #[true, false, true, false, true, false, false, false, false, false, false] rfl rfl (take_ofW HT_.out HW_.out (by kernel_rfl)) (fun _ _ _ h => h) (Or.inl ⟨by rfl, ?_⟩) hHeld ?_ ?_
          rotate_left
          · rintro w' ⟨s0, s1⟩
            go_simp
            with_reducible rfl
          rotate_left
          · simp only [Act.put, List.setIfInBounds_toArray, List.set_cons_zero, List.set_cons_succ, i64_w, i32_w]
            rfl
          refine one_ (i := 1) (N := some 44) #[true, true, true, false, true, false, false, false, false, false, false] rfl rfl (one_of HT_.out (by kernel_rfl)) (by decide) (fun K hK => ?_)
          refine goes_ Try.func43 (by kernel_rfl) rfl #[.slice Ao26 t469.length co26] (by rfl) rfl rfl (by (try simp only [List.map_toArray, List.map_cons, List.map_nil]); first | done | rfl | (simp only [List.length_drop, List.length_take]; rfl)) ?_
          with_reducible refine (bluebellref00_CopyInts.calls _ _ t469 t473 _ ?side1 ?side2 A19.out).mono ?_
          (case side1 => repeat (first | exact (Kd.R_reads' HO471.out).2.2 | (with_reducible refine Kd.C_alloc ?_ _) | (with_reducible refine Kd.C_drewN ?_ _) | (with_reducible refine Kd.C_drew ?_)))
          (case side2 => exact (Kd.R_reads' HO471.out).2.1)
          rintro e w27 ⟨v474, rfl, ho0, hb⟩
          refine ⟨_, rfl, ?_⟩
          have n0_ := Aside0.mk (Kd.R_elder' (by (with_reducible repeat (first | apply Kd.R_alloc | apply Kd.R_drewN | apply Kd.R_drew)); exact HO471.out) (Kd.R_base ho0) hb)
          have n1_ := Aside0.mk (Kd.R_lower (Kd.R_new' ho0 (Kd.R_lt (by (with_reducible repeat (first | apply Kd.R_alloc | apply Kd.R_drewN | apply Kd.R_drew)); exact HO471.out))) (below_size (by repeat (first | (with_reducible first | exact HB.out | apply below_alloc | apply pw_below_drewN | apply below_drew1 | refine below_set ?_ GE467.out) | exact HB.out))))
          have n2_ := Aside0.mk (blk_below (g := gb467) (o := .cells #[.int .i64 a4_0, .bool a4_1] 37 (0, 0)) (by (with_reducible repeat (first | refine blk_drewN ?_ _ | refine blk_drew ?_ | refine blk_alloc ?_ _)); exact BK467.out) hb)
          have n3_ := Aside0.mk (below_step (by repeat (first | (with_reducible first | exact HB.out | apply below_alloc | apply pw_below_drewN | apply below_drew1 | refine below_set ?_ GE467.out) | exact HB.out)) hb)
          clear HO471
          clear BK467
          clear HB
          have HO471 := n0_
          have HO475 := n1_
          have BK467 := n2_
          have HB := n3_
          clear n0_ n1_ n2_ n3_
          (try clear hb)
          (try clear hb2)
          (try clear hk)
          (try clear hi)
          (try clear ho0)
          refine hK.out _ _ ⟨(blk_cell BK467.out 0).trans rfl, (blk_cell BK467.out 1).trans rfl⟩ (fun hHeld => ?_)
          clear hK K
          refine norm_ (a' := ?_) ?_ ?_
          rotate_left
          · show Act.put _ (some 44) _ = _
            simp only [Act.put, List.setIfInBounds_toArray, List.set_cons_zero, List.set_cons_succ, i64_w, i32_w]
            rfl
          refine one_ (i := 3) (N := some 46) #[true, true, true, true, true, false, false, false, false, false, false] rfl rfl (one_of HT_.out (by kernel_rfl)) (by decide) (fun K hK => ?_)
          refine Kd.R_append_rows_step (Kd.int .i64) (w0 := w) w.heap.size (by rfl) (.tmp 44) (.tmp 45) 42 3 (.int .i64 0) 8 rfl Try.underlying42 info3 rfl (by decide) (by omega) v474 t473 l1 _ _ _ (fun k_ => some k_ ≠ (.slice Ao26 t469.length co26 : Value).ownBlock) (fun _ => False) rfl rfl ?aO ?aR (fun _ _ h => h) (fun _ h => h.elim) ?aF ?aB ?aS ?aL ?_
          (case aR => repeat (first | exact (Kd.C_below HR1.out HB.out) | (with_reducible refine Kd.C_alloc ?_ _) | (with_reducible refine Kd.C_drewN ?_ _) | (with_reducible refine Kd.C_drew ?_)))
          (case aB => exact (by repeat (first | (with_reducible first | exact HB.out | apply below_alloc | apply pw_below_drewN | apply below_drew1 | refine below_set ?_ GE467.out) | exact HB.out)))
          (case aF => exact (fun k_ hk => Kd.fresh' (Kd.R_lt (by (with_reducible repeat (first | apply Kd.R_alloc | apply Kd.R_drewN | apply Kd.R_drew)); exact HO471.out)) k_ hk))
          (case aO => exact (by (with_reducible repeat (first | apply Kd.R_alloc | apply Kd.R_drewN | apply Kd.R_drew)); exact Kd.R_mono HO475.out (fun _ hk => hk.2)))
          (case aS => exact (below_size (by repeat (first | (with_reducible first | exact HB.out | apply below_alloc | apply pw_below_drewN | apply below_drew1 | refine below_set ?_ GE467.out) | exact HB.out))))
          (case aL => have := LMc20.out; omega)
          intro v477 w28 ho hb hg hat
          rw [← Ny476.out] at ho
          have n0_ := Aside0.mk (blk_grown (g := gb467) (o := .cells #[.int .i64 a4_0, .bool a4_1] 37 (0, 0)) (by (with_reducible repeat (first | refine blk_drewN ?_ _ | refine blk_drew ?_ | refine blk_alloc ?_ _)); exact BK467.out) hg (Kd.R_ne HO475.out BK467.out (by decide)))
          have n1_ := Aside0.mk (Kd.R_after (ok := (fun _ => True)) (by (with_reducible repeat (first | apply Kd.R_alloc | apply Kd.R_drewN | apply Kd.R_drew)); exact HO471.out) hg hat)
          have n2_ := Aside0.mk (hb)
          have n3_ := Aside0.mk (ho)
          clear BK467
          clear HO471
          clear HB
          clear HO475
          have BK467 := n0_
          have HO471 := n1_
          have HB := n2_
          have HO478 := n3_
          clear n0_ n1_ n2_ n3_
          clear ho hb hg hat
          obtain ⟨Ao29, co29, eo29⟩ := Kd.R_slice HO478.out
          (first | subst eo29 | (injection eo29 with f1_ f2_ f3_; have f4_ := f1_.symm; have f5_ := f3_.symm; clear f1_ f2_ f3_; subst f4_; subst f5_))
          refine hK.out _ _ ⟨(blk_cell BK467.out 0).trans rfl, (blk_cell BK467.out 1).trans rfl⟩ (fun hHeld => ?_)
          clear hK K
          refine norm_ (a' := ?_) ?_ ?_
          rotate_left
          · show Act.put _ (some 46) _ = _
            simp only [Act.put, List.setIfInBounds_toArray, List.set_cons_zero, List.set_cons_succ, i64_w, i32_w]
            rfl
          refine one_ (i := 5) (N := some 48) #[true, true, true, true, true, true, false, false, false, false, false] rfl rfl (one_of HT_.out (by kernel_rfl)) (by decide) (fun K hK => ?_)
          refine goes_ Try.func35 (by kernel_rfl) rfl #[.slice Ao29 y476.length co29, .agg #[.int .i64 a4_0, .bool a4_1]] (by rfl) rfl rfl (by (try simp only [List.map_toArray, List.map_cons, List.map_nil]); first | done | rfl | (simp only [List.length_drop, List.length_take]; rfl)) ?_
          with_reducible refine (word_Unpack.calls kj5 _ _ y476 a4_0 a4_1 t479 t480 _ ?side1 ?side2 A21.out).mono ?_
          (case side1 => repeat (first | exact (Kd.R_reads' HO478.out).2.2 | (with_reducible refine Kd.C_alloc ?_ _) | (with_reducible refine Kd.C_drewN ?_ _) | (with_reducible refine Kd.C_drew ?_)))
          (case side2 => exact (Kd.R_reads' HO478.out).2.1)
          rintro e w30 ⟨rfl, hb⟩
          refine ⟨_, rfl, ?_⟩
          have n0_ := Aside0.mk (Kd.R_below (by (with_reducible repeat (first | apply Kd.R_alloc | apply Kd.R_drewN | apply Kd.R_drew)); exact HO471.out) hb)
          have n1_ := Aside0.mk (Kd.R_below (by (with_reducible repeat (first | apply Kd.R_alloc | apply Kd.R_drewN | apply Kd.R_drew)); exact HO478.out) hb)
          have n2_ := Aside0.mk (blk_below (g := gb467) (o := .cells #[.int .i64 a4_0, .bool a4_1] 37 (0, 0)) (by (with_reducible repeat (first | refine blk_drewN ?_ _ | refine blk_drew ?_ | refine blk_alloc ?_ _)); exact BK467.out) hb)
          have n3_ := Aside0.mk (below_step (by repeat (first | (with_reducible first | exact HB.out | apply below_alloc | apply pw_below_drewN | apply below_drew1 | refine below_set ?_ GE467.out) | exact HB.out)) hb)
          clear HO471
          clear HO478
          clear BK467
          clear HB
          have HO471 := n0_
          have HO478 := n1_
          have BK467 := n2_
          have HB := n3_
          clear n0_ n1_ n2_ n3_
          (try clear hb)
          (try clear hb2)
          (try clear hk)
          (try clear hi)
          refine hK.out _ _ ⟨(blk_cell BK467.out 0).trans rfl, (blk_cell BK467.out 1).trans rfl⟩ (fun hHeld => ?_)
          clear hK K
          refine norm_ (a' := ?_) ?_ ?_
          rotate_left
          · show Act.put _ (some 48) _ = _
            simp only [Act.put, List.setIfInBounds_toArray, List.set_cons_zero, List.set_cons_succ, i64_w, i32_w]
            rfl
          refine pure_ (i := 6) (N := some 42) (v := ?_) (a' := ?_) #[true, true, true, true, true, true, true, false, false, false, false] rfl rfl (any_of HT_.out (by kernel_rfl)) (fun _ _ _ h => h) (Or.inl ⟨by rfl, ?_⟩) ?_ ?_
          rotate_left
          · intro w'
            go_simp
            with_reducible rfl
          rotate_left
          · simp only [Act.put, List.setIfInBounds_toArray, List.set_cons_zero, List.set_cons_succ, i64_w, i32_w]
            rfl
          refine pure_ (i := 7) (N := some 49) (v := ?_) (a' := ?_) #[true, true, true, true, true, true, true, true, false, false, false] rfl rfl (any_of HT_.out (by kernel_rfl)) (fun _ _ _ h => h) (Or.inl ⟨by rfl, ?_⟩) ?_ ?_
          rotate_left
          · intro w'
            go_simp
            with_reducible rfl
          rotate_left
          · simp only [Act.put, List.setIfInBounds_toArray, List.set_cons_zero, List.set_cons_succ, i64_w, i32_w]
            rfl
          refine pure_ (i := 8) (N := some 50) (v := ?_) (a' := ?_) #[true, true, true, true, true, true, true, true, true, false, false] rfl rfl (any_of HT_.out (by kernel_rfl)) (fun _ _ _ h => h) (Or.inl ⟨by rfl, ?_⟩) ?_ ?_
          rotate_left
          · intro w'
            go_simp
            with_reducible rfl
          rotate_left
          · simp only [Act.put, List.setIfInBounds_toArray, List.set_cons_zero, List.set_cons_succ, i64_w, i32_w]
            rfl
          refine pure_ (i := 9) (N := some 13) (v := ?_) (a' := ?_) #[true, true, true, true, true, true, true, true, true, true, false] rfl rfl (any_of HT_.out (by kernel_rfl)) (fun _ _ _ h => h) (Or.inl ⟨by rfl, ?_⟩) ?_ ?_
          rotate_left
          · intro w'
            go_simp
            with_reducible rfl
          rotate_left
          · simp only [Act.put, List.setIfInBounds_toArray, List.set_cons_zero, List.set_cons_succ, i64_w, i32_w]
            rfl
          refine pure_ (i := 10) (N := some 14) (v := ?_) (a' := ?_) #[true, true, true, true, true, true, true, true, true, true, true] rfl rfl (any_of HT_.out (by kernel_rfl)) (fun _ _ _ h => h) (Or.inl ⟨by rfl, ?_⟩) ?_ ?_
          rotate_left
          · intro w'
            go_simp
            with_reducible rfl
          rotate_left
          · simp only [Act.put, List.setIfInBounds_toArray, List.set_cons_zero, List.set_cons_succ, i64_w, i32_w]
            rfl
          refine done_ (done_of HT_.out (by kernel_rfl)) ?_
          go_upto_region 5 with (fail)
          go_cut [70] (fun v70 wc => ∃ (kq : Nat) (x70_21 : Bool), v70 = .bool x70_21 ∧ Aside0 (bluebelllaw01_WordBack.j1 kq l1 a2 a3 x70_21 a4_0 a4_1 = some r) ∧ Aside0 (kq ≤ kj5) ∧ Aside0 (wc.heap[gb467]? = some (.cells #[.int .i64 a4_0, .bool a4_1] 37 (0, 0))) ∧ Aside0 (Below w.heap.size w wc))
          case first =>
            have H := HC22.out
            clear HC22
            by_cases c31 : t472 = 0
            · rw [if_pos c31] at H
              have c31b0 : (t472 == 0) = true := beq_iff_eq.mpr c31
              have c31b1 : (t472 != 0) = false := bne_eq_false_iff_eq.mpr c31
              clear c31
              (first | rw [c31b0] | (simp only [i64_w, i32_w]; rw [c31b0]) | skip)
              by_cases c32 : t480 = 0
              · rw [if_pos c32] at H
                have c32b0 : (t480 == 0) = true := beq_iff_eq.mpr c32
                have c32b1 : (t480 != 0) = false := bne_eq_false_iff_eq.mpr c32
                clear c32
                by_cases c33 : t479.toList = a0.toList
                · rw [if_pos c33] at H
                  have c33b0 : (t479.toList == a0.toList) = true := beq_iff_eq.mpr c33
                  have c33b1 : (t479.toList != a0.toList) = false := bne_eq_false_iff_eq.mpr c33
                  clear c33
                  have H' := Aside0.mk H
                  clear H
                  go_wp2
                  go_meet
                  case rel => exact ⟨_, (decide ((t469.length : Int) > (wrap64 ((wrap64 ((a0.size : Int) / 2)) + 1)))), (by first | rfl | (simp; done) | (simp [*]; done)), H', ⟨by have := HJ5.out; first | omega | exact Nat.le_refl _⟩, ⟨by (with_reducible repeat (first | refine blk_drewN ?_ _ | refine blk_drew ?_ | refine blk_alloc ?_ _)); exact BK467.out⟩, ⟨by repeat (first | (with_reducible first | exact HB.out | apply below_alloc | apply pw_below_drewN | apply below_drew1 | refine below_set ?_ GE467.out) | exact HB.out)⟩⟩
                · rw [if_neg c33] at H
                  have c33b0 : (t479.toList == a0.toList) = false := beq_eq_false_iff_ne.mpr c33
                  have c33b1 : (t479.toList != a0.toList) = true := bne_iff_ne.mpr c33
                  have H' := Aside0.mk H
                  clear H
                  go_wp2
                  go_meet
                  case rel => exact ⟨_, (true), (by first | rfl | (simp; done) | (simp [*]; done)), H', ⟨by have := HJ5.out; first | omega | exact Nat.le_refl _⟩, ⟨by (with_reducible repeat (first | refine blk_drewN ?_ _ | refine blk_drew ?_ | refine blk_alloc ?_ _)); exact BK467.out⟩, ⟨by repeat (first | (with_reducible first | exact HB.out | apply below_alloc | apply pw_below_drewN | apply below_drew1 | refine below_set ?_ GE467.out) | exact HB.out)⟩⟩
              · rw [if_neg c32] at H
                have c32b0 : (t480 == 0) = false := beq_eq_false_iff_ne.mpr c32
                have c32b1 : (t480 != 0) = true := bne_iff_ne.mpr c32
                have H' := Aside0.mk H
                clear H
                go_wp2
                go_meet
                case rel => exact ⟨_, (true), (by first | rfl | (simp; done) | (simp [*]; done)), H', ⟨by have := HJ5.out; first | omega | exact Nat.le_refl _⟩, ⟨by (with_reducible repeat (first | refine blk_drewN ?_ _ | refine blk_drew ?_ | refine blk_alloc ?_ _)); exact BK467.out⟩, ⟨by repeat (first | (with_reducible first | exact HB.out | apply below_alloc | apply pw_below_drewN | apply below_drew1 | refine below_set ?_ GE467.out) | exact HB.out)⟩⟩
            · rw [if_neg c31] at H
              have c31b0 : (t472 == 0) = false := beq_eq_false_iff_ne.mpr c31
              have c31b1 : (t472 != 0) = true := bne_iff_ne.mpr c31
              (first | rw [c31b0] | (simp only [i64_w, i32_w]; rw [c31b0]) | skip)
              have H' := Aside0.mk H
              clear H
              go_wp2
              go_meet
              case rel => exact ⟨_, (true), (by first | rfl | (simp; done) | (simp [*]; done)), H', ⟨by have := HJ5.out; first | omega | exact Nat.le_refl _⟩, ⟨by (with_reducible repeat (first | refine blk_drewN ?_ _ | refine blk_drew ?_ | refine blk_alloc ?_ _)); exact BK467.out⟩, ⟨by repeat (first | (with_reducible first | exact HB.out | apply below_alloc | apply pw_below_drewN | apply below_drew1 | refine below_set ?_ GE467.out) | exact HB.out)⟩⟩
          case rest =>
            clear HC22
            try clear c1
            try clear c2
            try clear p2
            try clear c3
            try clear c4
            try clear p6
            try clear c9
            try clear c10
            try clear c10b0
            try clear c10b1
            try clear c12
            try clear c17
            try clear c20
            try clear c31
            try clear c31b0
            try clear c31b1
            try clear c32
            try clear c32b0
            try clear c32b1
            try clear c33
            try clear c33b0
            try clear c33b1
            try clear hcz11_0
            try clear hcz11_1
            try clear hcz13_0
            try clear hcz13_1
            try clear hcz15_0
            try clear hcz15_1
            try clear hcz23_0
            try clear hcz23_1
            try clear hfz11_0
            try clear hfz11_1
            try clear hfz13_0
            try clear hfz13_1
            try clear hfz15_0
            try clear hfz15_1
            try clear hfz23_0
            try clear hfz23_1
            try clear p2
            obtain ⟨kq, x70_21, rfl, HA, HJ21, BK467, HB⟩ := hcut
            cases kq with
            | zero => exact absurd HA.out (by simp [bluebelllaw01_WordBack.j1])
            | succ kj21 =>
              have H := HA.out
              clear HA
              simp only [bluebelllaw01_WordBack.j1] at H
              by_cases c34 : x70_21 = true
              · subst c34
                have H1 : (some false) = some r := by rw [if_pos rfl] at H; exact H
                clear H
                have H := H1
                clear H1
                obtain rfl := Option.some.inj H
                go_wp2
                go_ret
                exact ⟨by first | rfl | (simp [errW_none, errW_some] <;> rfl) | (simp [*, errW_none, errW_some] <;> rfl), by repeat (first | (with_reducible first | exact HB.out | apply below_alloc | apply pw_below_drewN | apply below_drew1 | refine below_set ?_ GE467.out) | exact HB.out)⟩
              · replace c34 := Bool.eq_false_iff.mpr c34
                subst c34
                have H1 : ((word_Bytes.f kj21 l1 a4_0 a4_1).bind fun bt481 => ((word_Words.f kj21 bt481.1 a4_0 a4_1).bind fun bt485 => (if bt481.2 = 0 then (if bt485.2 = 0 then (bluebelllaw01_WordBack.j2 kj21 l1 a2 a3 bt481.1 bt485.1 ((bt485.1.length : Int) != (l1.length : Int)) a4_0 a4_1) else (bluebelllaw01_WordBack.j2 kj21 l1 a2 a3 bt481.1 bt485.1 true a4_0 a4_1)) else (bluebelllaw01_WordBack.j2 kj21 l1 a2 a3 bt481.1 bt485.1 true a4_0 a4_1)))) = some r := by rw [if_neg (show ¬ (false = true) by decide)] at H; exact H
                clear H
                have H := H1
                clear H1
                replace H := Option.bind_eq_some_iff.mp H
                obtain ⟨⟨t481, t484⟩, A350, H⟩ := H
                replace H : ((word_Words.f kj21 t481 a4_0 a4_1).bind fun bt485 => (if t484 = 0 then (if bt485.2 = 0 then (bluebelllaw01_WordBack.j2 kj21 l1 a2 a3 t481 bt485.1 ((bt485.1.length : Int) != (l1.length : Int)) a4_0 a4_1) else (bluebelllaw01_WordBack.j2 kj21 l1 a2 a3 t481 bt485.1 true a4_0 a4_1)) else (bluebelllaw01_WordBack.j2 kj21 l1 a2 a3 t481 bt485.1 true a4_0 a4_1))) = some r := H
                have A35 := Aside0.mk A350
                clear A350
                replace H := Option.bind_eq_some_iff.mp H
                obtain ⟨⟨t485, t488⟩, A360, H⟩ := H
                replace H : (if t484 = 0 then (if t488 = 0 then (bluebelllaw01_WordBack.j2 kj21 l1 a2 a3 t481 t485 ((t485.length : Int) != (l1.length : Int)) a4_0 a4_1) else (bluebelllaw01_WordBack.j2 kj21 l1 a2 a3 t481 t485 true a4_0 a4_1)) else (bluebelllaw01_WordBack.j2 kj21 l1 a2 a3 t481 t485 true a4_0 a4_1)) = some r := H
                have A36 := Aside0.mk A360
                clear A360
                have HC37 := Aside0.mk H
                clear H
                have hcz38_0 : wc.cell? ⟨gb467, 0, none⟩ = some (.int .i64 a4_0) := (blk_cell BK467.out 0).trans rfl
                have hcz38_1 : wc.cell? ⟨gb467, 1, none⟩ = some (.bool a4_1) := (blk_cell BK467.out 1).trans rfl
                have hfz38_0 := blk_frozen BK467.out 0
                have hfz38_1 := blk_frozen BK467.out 1
                go_upto_region 9 with (first | ((with_reducible refine gate_callee (f := 37) rfl ?_); refine goesL_ (some 74) rfl rfl Try.func37 (by kernel_rfl) rfl #[.slice A1 l1.length c1, .agg #[.int .i64 a4_0, .bool a4_1]] rfl (by (try simp only [List.map_toArray, List.map_cons, List.map_nil]); first | done | rfl | (simp only [List.length_drop, List.length_take]; rfl)) ?_; (with_reducible refine (word_Bytes.calls kj21 _ _ l1 a4_0 a4_1 t481 t484 _ ?side1 ?side2 A35.out).mono ?_); (case side1 => repeat (first | exact (Kd.C_below HR1.out HB.out) | (with_reducible refine Kd.C_alloc ?_ _) | (with_reducible refine Kd.C_drewN ?_ _) | (with_reducible refine Kd.C_drew ?_))); (case side2 => exact HC1.out); rintro e w39 ⟨v482, rfl, ho0, hb⟩; refine ⟨_, rfl, ?_⟩; have n0_ := Aside0.mk (Kd.R_lower ho0 (below_size (by repeat (first | (with_reducible first | exact HB.out | apply below_alloc | apply pw_below_drewN | apply below_drew1 | refine below_set ?_ GE467.out) | exact HB.out)))); have n1_ := Aside0.mk (blk_below (g := gb467) (o := .cells #[.int .i64 a4_0, .bool a4_1] 37 (0, 0)) (by (with_reducible repeat (first | refine blk_drewN ?_ _ | refine blk_drew ?_ | refine blk_alloc ?_ _)); exact BK467.out) hb); have n2_ := Aside0.mk (below_step (by repeat (first | (with_reducible first | exact HB.out | apply below_alloc | apply pw_below_drewN | apply below_drew1 | refine below_set ?_ GE467.out) | exact HB.out)) hb); clear BK467; clear HB; have HO483 := n0_; have BK467 := n1_; have HB := n2_; clear n0_ n1_ n2_; (try clear hb); (try clear hb2); (try clear hk); (try clear hi); (try clear ho0); have hcz40_0 : w39.cell? ⟨gb467, 0, none⟩ = some (.int .i64 a4_0) := (blk_cell BK467.out 0).trans rfl; have hcz40_1 : w39.cell? ⟨gb467, 1, none⟩ = some (.bool a4_1) := (blk_cell BK467.out 1).trans rfl; have hfz40_0 := blk_frozen BK467.out 0; have hfz40_1 := blk_frozen BK467.out 1; obtain ⟨Ao41, co41, eo41⟩ := Kd.R_slice HO483.out; subst eo41) | ((with_reducible refine gate_callee (f := 40) rfl ?_); refine goesL_ (some 80) rfl rfl Try.func40 (by kernel_rfl) rfl #[.slice Ao41 t481.length co41, .agg #[.int .i64 a4_0, .bool a4_1]] rfl (by (try simp only [List.map_toArray, List.map_cons, List.map_nil]); first | done | rfl | (simp only [List.length_drop, List.length_take]; rfl)) ?_; (with_reducible refine (word_Words.calls kj21 _ _ t481 a4_0 a4_1 t485 t488 _ ?side1 ?side2 A36.out).mono ?_); (case side1 => repeat (first | exact (Kd.R_reads' HO483.out).2.2 | (with_reducible refine Kd.C_alloc ?_ _) | (with_reducible refine Kd.C_drewN ?_ _) | (with_reducible refine Kd.C_drew ?_))); (case side2 => exact (Kd.R_reads' HO483.out).2.1); rintro e w42 ⟨v486, rfl, ho0, hb⟩; refine ⟨_, rfl, ?_⟩; have n0_ := Aside0.mk (Kd.R_below (by (with_reducible repeat (first | apply Kd.R_alloc | apply Kd.R_drewN | apply Kd.R_drew)); exact HO483.out) hb); have n1_ := Aside0.mk (Kd.R_lower ho0 (below_size (by repeat (first | (with_reducible first | exact HB.out | apply below_alloc | apply pw_below_drewN | apply below_drew1 | refine below_set ?_ GE467.out) | exact HB.out)))); have n2_ := Aside0.mk (blk_below (g := gb467) (o := .cells #[.int .i64 a4_0, .bool a4_1] 37 (0, 0)) (by (with_reducible repeat (first | refine blk_drewN ?_ _ | refine blk_drew ?_ | refine blk_alloc ?_ _)); exact BK467.out) hb); have n3_ := Aside0.mk (below_step (by repeat (first | (with_reducible first | exact HB.out | apply below_alloc | apply pw_below_drewN | apply below_drew1 | refine below_set ?_ GE467.out) | exact HB.out)) hb); clear HO483; clear BK467; clear HB; have HO483 := n0_; have HO487 := n1_; have BK467 := n2_; have HB := n3_; clear n0_ n1_ n2_ n3_; (try clear hb); (try clear hb2); (try clear hk); (try clear hi); (try clear ho0)))
                (try simp only [Act.put, List.setIfInBounds_toArray, List.set_cons_zero, List.set_cons_succ])
                go_cut [95] (fun v95 wc => ∃ (kq : Nat) (x95_36 : Bool), v95 = .bool x95_36 ∧ Aside0 (bluebelllaw01_WordBack.j2 kq l1 a2 a3 t481 t485 x95_36 a4_0 a4_1 = some r) ∧ Aside0 (kq ≤ kj21) ∧ Aside0 (Kd.R (Kd.int .u8) 5 wc w.heap.size (fun _ => True) (.slice Ao41 t481.length co41) t481) ∧ Aside0 (Kd.R (Kd.int .i64) 3 wc w.heap.size (fun _ => True) v486 t485) ∧ Aside0 (wc.heap[gb467]? = some (.cells #[.int .i64 a4_0, .bool a4_1] 37 (0, 0))) ∧ Aside0 (Below w.heap.size w wc))
                case first =>
                  have H := HC37.out
                  clear HC37
                  by_cases c43 : t484 = 0
                  · rw [if_pos c43] at H
                    have c43b0 : (t484 == 0) = true := beq_iff_eq.mpr c43
                    have c43b1 : (t484 != 0) = false := bne_eq_false_iff_eq.mpr c43
                    clear c43
                    (first | rw [c43b0] | (simp only [i64_w, i32_w]; rw [c43b0]) | skip)
                    by_cases c44 : t488 = 0
                    · rw [if_pos c44] at H
                      have c44b0 : (t488 == 0) = true := beq_iff_eq.mpr c44
                      have c44b1 : (t488 != 0) = false := bne_eq_false_iff_eq.mpr c44
                      clear c44
                      have H' := Aside0.mk H
                      clear H
                      obtain ⟨Ao45, co45, eo45⟩ := Kd.R_slice HO487.out
                      subst eo45
                      go_wp2
                      go_meet
                      case rel => exact ⟨_, (((t485.length : Int) != (l1.length : Int))), (by first | rfl | (simp; done) | (simp [*]; done)), H', ⟨by have := HJ5.out; have := HJ21.out; first | omega | exact Nat.le_refl _⟩, ⟨by (with_reducible repeat (first | apply Kd.R_alloc | apply Kd.R_drewN | apply Kd.R_drew)); exact HO483.out⟩, ⟨by (with_reducible repeat (first | apply Kd.R_alloc | apply Kd.R_drewN | apply Kd.R_drew)); exact HO487.out⟩, ⟨by (with_reducible repeat (first | refine blk_drewN ?_ _ | refine blk_drew ?_ | refine blk_alloc ?_ _)); exact BK467.out⟩, ⟨by repeat (first | (with_reducible first | exact HB.out | apply below_alloc | apply pw_below_drewN | apply below_drew1 | refine below_set ?_ GE467.out) | exact HB.out)⟩⟩
                    · rw [if_neg c44] at H
                      have c44b0 : (t488 == 0) = false := beq_eq_false_iff_ne.mpr c44
                      have c44b1 : (t488 != 0) = true := bne_iff_ne.mpr c44
                      have H' := Aside0.mk H
                      clear H
                      go_wp2
                      go_meet
                      case rel => exact ⟨_, (true), (by first | rfl | (simp; done) | (simp [*]; done)), H', ⟨by have := HJ5.out; have := HJ21.out; first | omega | exact Nat.le_refl _⟩, ⟨by (with_reducible repeat (first | apply Kd.R_alloc | apply Kd.R_drewN | apply Kd.R_drew)); exact HO483.out⟩, ⟨by (with_reducible repeat (first | apply Kd.R_alloc | apply Kd.R_drewN | apply Kd.R_drew)); exact HO487.out⟩, ⟨by (with_reducible repeat (first | refine blk_drewN ?_ _ | refine blk_drew ?_ | refine blk_alloc ?_ _)); exact BK467.out⟩, ⟨by repeat (first | (with_reducible first | exact HB.out | apply below_alloc | apply pw_below_drewN | apply below_drew1 | refine below_set ?_ GE467.out) | exact HB.out)⟩⟩
                  · rw [if_neg c43] at H
                    have c43b0 : (t484 == 0) = false := beq_eq_false_iff_ne.mpr c43
                    have c43b1 : (t484 != 0) = true := bne_iff_ne.mpr c43
                    (first | rw [c43b0] | (simp only [i64_w, i32_w]; rw [c43b0]) | skip)
                    have H' := Aside0.mk H
                    clear H
                    go_wp2
                    go_meet
                    case rel => exact ⟨_, (true), (by first | rfl | (simp; done) | (simp [*]; done)), H', ⟨by have := HJ5.out; have := HJ21.out; first | omega | exact Nat.le_refl _⟩, ⟨by (with_reducible repeat (first | apply Kd.R_alloc | apply Kd.R_drewN | apply Kd.R_drew)); exact HO483.out⟩, ⟨by (with_reducible repeat (first | apply Kd.R_alloc | apply Kd.R_drewN | apply Kd.R_drew)); exact HO487.out⟩, ⟨by (with_reducible repeat (first | refine blk_drewN ?_ _ | refine blk_drew ?_ | refine blk_alloc ?_ _)); exact BK467.out⟩, ⟨by repeat (first | (with_reducible first | exact HB.out | apply below_alloc | apply pw_below_drewN | apply below_drew1 | refine below_set ?_ GE467.out) | exact HB.out)⟩⟩
                case rest =>
                  clear HC37
                  try clear c1
                  try clear c2
                  try clear p2
                  try clear c3
                  try clear c4
                  try clear p6
                  try clear c9
                  try clear c10
                  try clear c10b0
                  try clear c10b1
                  try clear c12
                  try clear c17
                  try clear c20
                  try clear c31
                  try clear c31b0
                  try clear c31b1
                  try clear c32
                  try clear c32b0
                  try clear c32b1
                  try clear c33
                  try clear c33b0
                  try clear c33b1
                  try clear c34
                  try clear c35
                  try clear c37
                  try clear c40
                  try clear c42
                  try clear c43
                  try clear c43b0
                  try clear c43b1
                  try clear c44
                  try clear c44b0
                  try clear c44b1
                  try clear hcz11_0
                  try clear hcz11_1
                  try clear hcz13_0
                  try clear hcz13_1
                  try clear hcz15_0
                  try clear hcz15_1
                  try clear hcz23_0
                  try clear hcz23_1
                  try clear hcz38_0
                  try clear hcz38_1
                  try clear hcz40_0
                  try clear hcz40_1
                  try clear hfz11_0
                  try clear hfz11_1
                  try clear hfz13_0
                  try clear hfz13_1
                  try clear hfz15_0
                  try clear hfz15_1
                  try clear hfz23_0
                  try clear hfz23_1
                  try clear hfz38_0
                  try clear hfz38_1
                  try clear hfz40_0
                  try clear hfz40_1
                  try clear p2
                  try clear p6
                  obtain ⟨kq, x95_36, rfl, HA, HJ36, HO_15, HO_16, BK467, HB⟩ := hcut
                  cases kq with
                  | zero => exact absurd HA.out (by simp [bluebelllaw01_WordBack.j2])
                  | succ kj36 =>
                    have H := HA.out
                    clear HA
                    simp only [bluebelllaw01_WordBack.j2] at H
                    by_cases c46 : x95_36 = true
                    · subst c46
                      have H1 : (some false) = some r := by rw [if_pos rfl] at H; exact H
                      clear H
                      have H := H1
                      clear H1
                      obtain rfl := Option.some.inj H
                      go_wp2
                      go_ret
                      exact ⟨by first | rfl | (simp [errW_none, errW_some] <;> rfl) | (simp [*, errW_none, errW_some] <;> rfl), by repeat (first | (with_reducible first | exact HB.out | apply below_alloc | apply pw_below_drewN | apply below_drew1 | refine below_set ?_ GE467.out) | exact HB.out)⟩
                    · replace c46 := Bool.eq_false_iff.mpr c46
                      subst c46
                      have H1 : (bluebelllaw01_WordBack.l0 kj36 l1 a2 a3 t481 t485 0 a4_0 a4_1) = some r := by rw [if_neg (show ¬ (false = true) by decide)] at H; exact H
                      clear H
                      have H := H1
                      clear H1
                      have H' := Aside0.mk H
                      clear H
                      go_wp2
                      go_loopg [17] kj36 (fun kq v17 w' => ∃ (x17_4 : Int), v17 = .int .i64 x17_4 ∧ Aside0 (bluebelllaw01_WordBack.l0 kq l1 a2 a3 t481 t485 x17_4 a4_0 a4_1 = some r) ∧ Aside0 (kq ≤ kj36) ∧ Aside0 (Kd.R (Kd.int .u8) 5 w' w.heap.size (fun _ => True) (.slice Ao41 t481.length co41) t481) ∧ Aside0 (Kd.R (Kd.int .i64) 3 w' w.heap.size (fun _ => True) v486 t485) ∧ Aside0 (w'.heap[gb467]? = some (.cells #[.int .i64 a4_0, .bool a4_1] 37 (0, 0))) ∧ Aside0 (Below w.heap.size w w'))
                      case atStart => exact ⟨(0), (by first | rfl | (simp; done) | (simp [*]; done)), H', ⟨Nat.le_refl _⟩, ⟨by (with_reducible repeat (first | apply Kd.R_alloc | apply Kd.R_drewN | apply Kd.R_drew)); exact HO_15.out⟩, ⟨by (with_reducible repeat (first | apply Kd.R_alloc | apply Kd.R_drewN | apply Kd.R_drew)); exact HO_16.out⟩, ⟨by (with_reducible repeat (first | refine blk_drewN ?_ _ | refine blk_drew ?_ | refine blk_alloc ?_ _)); exact BK467.out⟩, ⟨by repeat (first | (with_reducible first | exact HB.out | apply below_alloc | apply pw_below_drewN | apply below_drew1 | refine below_set ?_ GE467.out) | exact HB.out)⟩⟩
                      case round =>
                        clear H'
                        try clear c1
                        try clear c2
                        try clear p2
                        try clear c3
                        try clear c4
                        try clear p6
                        try clear c9
                        try clear c10
                        try clear c10b0
                        try clear c10b1
                        try clear c12
                        try clear c17
                        try clear c20
                        try clear c31
                        try clear c31b0
                        try clear c31b1
                        try clear c32
                        try clear c32b0
                        try clear c32b1
                        try clear c33
                        try clear c33b0
                        try clear c33b1
                        try clear c34
                        try clear c35
                        try clear c37
                        try clear c40
                        try clear c42
                        try clear c43
                        try clear c43b0
                        try clear c43b1
                        try clear c44
                        try clear c44b0
                        try clear c44b1
                        try clear c46
                        try clear hcz11_0
                        try clear hcz11_1
                        try clear hcz13_0
                        try clear hcz13_1
                        try clear hcz15_0
                        try clear hcz15_1
                        try clear hcz23_0
                        try clear hcz23_1
                        try clear hcz38_0
                        try clear hcz38_1
                        try clear hcz40_0
                        try clear hcz40_1
                        try clear hfz11_0
                        try clear hfz11_1
                        try clear hfz13_0
                        try clear hfz13_1
                        try clear hfz15_0
                        try clear hfz15_1
                        try clear hfz23_0
                        try clear hfz23_1
                        try clear hfz38_0
                        try clear hfz38_1
                        try clear hfz40_0
                        try clear hfz40_1
                        try clear p2
                        try clear p6
                        obtain ⟨x17_4, rfl, HA, HK4, HO_15, HO_16, BK467, HB⟩ := hrel
                        cases gk with
                        | zero => exact absurd HA.out (by simp [bluebelllaw01_WordBack.l0])
                        | succ k4 =>
                          have H := HA.out
                          clear HA
                          simp only [bluebelllaw01_WordBack.l0] at H
                          by_cases c47 : x17_4 < (t485.length : Int)
                          · rw [if_pos c47] at H
                            have c47b0 : decide (x17_4 < (t485.length : Int)) = true := decide_eq_true c47
                            clear c47
                            by_cases c48 : 0 ≤ x17_4
                            · rw [if_pos c48] at H
                              have c48b0 : decide (0 ≤ x17_4) = true := decide_eq_true c48
                              clear c48
                              by_cases c49 : x17_4 < (l1.length : Int)
                              · rw [if_pos c49] at H
                                have c49b0 : decide (x17_4 < (l1.length : Int)) = true := decide_eq_true c49
                                clear c49
                                replace H := Option.bind_eq_some_iff.mp H
                                obtain ⟨t491, A500, H⟩ := H
                                replace H : (if (rd t485 x17_4) = t491 then (bluebelllaw01_WordBack.l0 k4 l1 a2 a3 t481 t485 (wrap64 (x17_4 + 1)) a4_0 a4_1) else (some false)) = some r := H
                                have A50 := Aside0.mk A500
                                clear A500
                                by_cases c51 : (rd t485 x17_4) = t491
                                · rw [if_pos c51] at H
                                  have c51b0 : ((rd t485 x17_4) == t491) = true := beq_iff_eq.mpr c51
                                  have c51b1 : ((rd t485 x17_4) != t491) = false := bne_eq_false_iff_eq.mpr c51
                                  clear c51
                                  have H' := Aside0.mk H
                                  clear H
                                  obtain ⟨Ao52, co52, eo52⟩ := Kd.R_slice HO_16.out
                                  subst eo52
                                  try go_wp2
                                  have n0_ := Aside0.mk (Kd.R_drew HO_15.out)
                                  have n1_ := Aside0.mk (Kd.R_drew HO_16.out)
                                  have n2_ := Aside0.mk (blk_drew BK467.out)
                                  have n3_ := Aside0.mk (below_drew1 HB.out)
                                  clear HO_15
                                  clear HO_16
                                  clear BK467
                                  clear HB
                                  have HO_15 := n0_
                                  have HO_16 := n1_
                                  have BK467 := n2_
                                  have HB := n3_
                                  clear n0_ n1_ n2_ n3_
                                  have p489 : 0 ≤ (x17_4 : Int) := of_decide_eq_true (by first | (with_reducible assumption) | assumption)
                                  have q489 : x17_4 < (t485.length : Int) := of_decide_eq_true (by first | (with_reducible assumption) | assumption)
                                  obtain ⟨ad489, e489, hx489_0⟩ := Kd.at_int (Kd.R_reads' HO_16.out).2.2 x17_4 p489 q489
                                  cases e489
                                  replace p489 := eq_true p489
                                  replace q489 := eq_true q489
                                  have p490 : 0 ≤ (x17_4 : Int) := of_decide_eq_true (by first | (with_reducible assumption) | assumption)
                                  have q490 : x17_4 < (l1.length : Int) := of_decide_eq_true (by first | (with_reducible assumption) | assumption)
                                  obtain ⟨ad490, e490, hx490_0⟩ := Kd.at_int HR1.out x17_4 p490 q490
                                  have hw490_0 := hx490_0
                                  cases e490
                                  replace hx490_0 := (HB.out.cell (World.block_lt_of_cell? w _ hx490_0)).trans hx490_0
                                  replace p490 := eq_true p490
                                  replace q490 := eq_true q490
                                  refine start_ (n := 12) (S := fun w' => w'.cell? ⟨gb467, 0, none⟩ = some (.int .i64 a4_0) ∧ w'.cell? ⟨gb467, 1, none⟩ = some (.bool a4_1) ∧ w'.cell? (ad489.add (x17_4).toNat) = some (.int .i64 (rd t485 x17_4)) ∧ w'.cell? (ad490.add (x17_4).toNat) = some (.int .i64 (rd l1 x17_4))) (ds := []) #[false, false, false, false, false, false, false, false, false, false, false, false] (by kernel_rfl) rfl rfl ⟨(blk_cell BK467.out 0).trans rfl, (blk_cell BK467.out 1).trans rfl, hx489_0, ((HB.out.cell (World.block_lt_of_cell? w _ hw490_0)).trans hw490_0)⟩ (fun hHeld => ?_); refine with_tabW bluebelllaw01_WordBack.tab14 bluebelllaw01_WordBack.bits14 (fun HT_ HW_ => ?_)
                                  generalize wr.drew = w53 at HO_15 HO_16 BK467 HB hx489_0 hx490_0 hHeld ⊢
                                  refine pure_ (i := 0) (N := some 102) (v := ?_) (a' := ?_) #[true, false, false, false, false, false, false, false, false, false, false, false] rfl rfl (any_of HT_.out (by kernel_rfl)) (fun _ _ _ h => h) (Or.inl ⟨by rfl, ?_⟩) ?_ ?_
                                  rotate_left
                                  · intro w'
                                    go_simp
                                    with_reducible rfl
                                  rotate_left
                                  · simp only [Act.put, List.setIfInBounds_toArray, List.set_cons_zero, List.set_cons_succ, i64_w, i32_w]
                                    rfl
                                  refine pure_ (i := 1) (N := some 103) (v := ?_) (a' := ?_) #[true, true, false, false, false, false, false, false, false, false, false, false] rfl rfl (any_of HT_.out (by kernel_rfl)) (fun _ _ _ h => h) (Or.inl ⟨by rfl, ?_⟩) ?_ ?_
                                  rotate_left
                                  · intro w'
                                    go_simp
                                    with_reducible rfl
                                  rotate_left
                                  · simp only [Act.put, List.setIfInBounds_toArray, List.set_cons_zero, List.set_cons_succ, i64_w, i32_w]
                                    rfl
                                  refine pure_ (i := 2) (N := some 104) (v := ?_) (a' := ?_) #[true, true, true, false, false, false, false, false, false, false, false, false] rfl rfl (any_of HT_.out (by kernel_rfl)) (fun _ _ _ h => h) (Or.inl ⟨by rfl, ?_⟩) ?_ ?_
                                  rotate_left
                                  · intro w'
                                    go_simp
                                    with_reducible rfl
                                  rotate_left
                                  · simp only [Act.put, List.setIfInBounds_toArray, List.set_cons_zero, List.set_cons_succ, i64_w, i32_w]
                                    rfl
                                  refine pure_ (i := 4) (N := some 106) (v := ?_) (a' := ?_) #[true, true, true, false, true, false, false, false, false, false, false, false] rfl rfl (any_of HT_.out (by kernel_rfl)) (fun _ _ _ h => h) (Or.inl ⟨by rfl, ?_⟩) ?_ ?_
                                  rotate_left
                                  · intro w'
                                    go_simp
                                    with_reducible rfl
                                  rotate_left
                                  · simp only [Act.put, List.setIfInBounds_toArray, List.set_cons_zero, List.set_cons_succ, i64_w, i32_w]
                                    rfl
                                  refine pure_ (i := 5) (N := some 107) (v := ?_) (a' := ?_) #[true, true, true, false, true, true, false, false, false, false, false, false] rfl rfl (any_of HT_.out (by kernel_rfl)) (fun _ _ _ h => h) (Or.inl ⟨by rfl, ?_⟩) ?_ ?_
                                  rotate_left
                                  · intro w'
                                    go_simp
                                    with_reducible rfl
                                  rotate_left
                                  · simp only [Act.put, List.setIfInBounds_toArray, List.set_cons_zero, List.set_cons_succ, i64_w, i32_w]
                                    rfl
                                  refine pure_ (i := 6) (N := some 108) (v := ?_) (a' := ?_) #[true, true, true, false, true, true, true, false, false, false, false, false] rfl rfl (any_of HT_.out (by kernel_rfl)) (fun _ _ _ h => h) (Or.inl ⟨by rfl, ?_⟩) ?_ ?_
                                  rotate_left
                                  · intro w'
                                    go_simp
                                    with_reducible rfl
                                  rotate_left
                                  · simp only [Act.put, List.setIfInBounds_toArray, List.set_cons_zero, List.set_cons_succ, i64_w, i32_w]
                                    rfl
                                  refine pure_ (i := 8) (N := some 110) (v := ?_) (a' := ?_) #[true, true, true, false, true, true, true, false, true, false, false, false] rfl rfl (any_of HT_.out (by kernel_rfl)) (fun _ _ _ h => h) (Or.inl ⟨by rfl, ?_⟩) ?_ ?_
                                  rotate_left
                                  · intro w'
                                    go_simp
                                    with_reducible rfl
                                  rotate_left
                                  · simp only [Act.put, List.setIfInBounds_toArray, List.set_cons_zero, List.set_cons_succ, i64_w, i32_w]
                                    rfl
                                  refine take_ (i := 3) (N := some 105) (v := ?_) (a' := ?_) #[true, true, true, true, true, true, true, false, true, false, false, false] rfl rfl (take_ofW HT_.out HW_.out (by kernel_rfl)) (fun _ _ _ h => h) (Or.inl ⟨by rfl, ?_⟩) hHeld ?_ ?_
                                  rotate_left
                                  · rintro w' ⟨s0, s1, s2, s3⟩
                                    go_simp
                                    with_reducible rfl
                                  rotate_left
                                  · simp only [Act.put, List.setIfInBounds_toArray, List.set_cons_zero, List.set_cons_succ, i64_w, i32_w]
                                    rfl
                                  refine take_ (i := 7) (N := some 109) (v := ?_) (a' := ?_) #[true, true, true, true, true, true, true, true, true, false, false, false] rfl rfl (take_ofW HT_.out HW_.out (by kernel_rfl)) (fun _ _ _ h => h) (Or.inl ⟨by rfl, ?_⟩) hHeld ?_ ?_
                                  rotate_left
                                  · rintro w' ⟨s0, s1, s2, s3⟩
                                    go_simp
                                    with_reducible rfl
                                  rotate_left
                                  · simp only [Act.put, List.setIfInBounds_toArray, List.set_cons_zero, List.set_cons_succ, i64_w, i32_w]
                                    rfl
                                  refine take_ (i := 9) (N := some 111) (v := ?_) (a' := ?_) #[true, true, true, true, true, true, true, true, true, true, false, false] rfl rfl (take_ofW HT_.out HW_.out (by kernel_rfl)) (fun _ _ _ h => h) (Or.inl ⟨by rfl, ?_⟩) hHeld ?_ ?_
                                  rotate_left
                                  · rintro w' ⟨s0, s1, s2, s3⟩
                                    go_simp
                                    with_reducible rfl
                                  rotate_left
                                  · simp only [Act.put, List.setIfInBounds_toArray, List.set_cons_zero, List.set_cons_succ, i64_w, i32_w]
                                    rfl
                                  refine one_ (i := 10) (N := some 112) #[true, true, true, true, true, true, true, true, true, true, true, false] rfl rfl (one_of HT_.out (by kernel_rfl)) (by decide) (fun K hK => ?_)
                                  refine goes_ Try.func17 (by kernel_rfl) rfl #[.int .i64 (rd l1 x17_4), .int .i64 a4_0] (by rfl) rfl rfl (by (try simp only [List.map_toArray, List.map_cons, List.map_nil]); first | done | rfl | (simp only [List.length_drop, List.length_take]; rfl)) ?_
                                  with_reducible refine (bluebellref01_Word.calls k4 (rd l1 x17_4) a4_0 t491 _ A50.out).mono ?_
                                  rintro e w' ⟨rfl, ⟨nd, rfl⟩⟩
                                  refine ⟨_, rfl, ?_⟩
                                  refine hK.out _ _ ⟨(blk_cell BK467.out 0).trans rfl, (blk_cell BK467.out 1).trans rfl, hHeld.2.2.1, ((HB.out.cell (World.block_lt_of_cell? w _ hw490_0)).trans hw490_0)⟩ (fun hHeld => ?_)
                                  clear hK K
                                  refine norm_ (a' := ?_) ?_ ?_
                                  rotate_left
                                  · show Act.put _ (some 112) _ = _
                                    simp only [Act.put, List.setIfInBounds_toArray, List.set_cons_zero, List.set_cons_succ, i64_w, i32_w]
                                    rfl
                                  refine pure_ (i := 11) (N := some 113) (v := ?_) (a' := ?_) #[true, true, true, true, true, true, true, true, true, true, true, true] rfl rfl (any_of HT_.out (by kernel_rfl)) (fun _ _ _ h => h) (Or.inl ⟨by rfl, ?_⟩) ?_ ?_
                                  rotate_left
                                  · intro w'
                                    go_simp
                                    with_reducible rfl
                                  rotate_left
                                  · simp only [Act.put, List.setIfInBounds_toArray, List.set_cons_zero, List.set_cons_succ, i64_w, i32_w]
                                    rfl
                                  refine done_ (done_of HT_.out (by kernel_rfl)) ?_
                                  try go_wp2
                                  go_roundg k4
                                  case measure => have := HJ5.out; have := HJ21.out; have := HJ36.out; have := HK4.out; omega
                                  case rel => exact ⟨(wrap64 (x17_4 + 1)), (by first | rfl | (simp; done) | (simp [*]; done)), H', ⟨by have := HJ5.out; have := HJ21.out; have := HJ36.out; have := HK4.out; omega⟩, ⟨by (with_reducible repeat (first | apply Kd.R_alloc | apply Kd.R_drewN | apply Kd.R_drew)); exact HO_15.out⟩, ⟨by (with_reducible repeat (first | apply Kd.R_alloc | apply Kd.R_drewN | apply Kd.R_drew)); exact HO_16.out⟩, ⟨by (with_reducible repeat (first | refine blk_drewN ?_ _ | refine blk_drew ?_ | refine blk_alloc ?_ _)); exact BK467.out⟩, ⟨by repeat (first | (with_reducible first | exact HB.out | apply below_alloc | apply pw_below_drewN | apply below_drew1 | refine below_set ?_ GE467.out) | exact HB.out)⟩⟩
                                · rw [if_neg c51] at H
                                  have c51b0 : ((rd t485 x17_4) == t491) = false := beq_eq_false_iff_ne.mpr c51
                                  have c51b1 : ((rd t485 x17_4) != t491) = true := bne_iff_ne.mpr c51
                                  obtain rfl := Option.some.inj H
                                  obtain ⟨Ao54, co54, eo54⟩ := Kd.R_slice HO_16.out
                                  subst eo54
                                  try go_wp2
                                  have n0_ := Aside0.mk (Kd.R_drew HO_15.out)
                                  have n1_ := Aside0.mk (Kd.R_drew HO_16.out)
                                  have n2_ := Aside0.mk (blk_drew BK467.out)
                                  have n3_ := Aside0.mk (below_drew1 HB.out)
                                  clear HO_15
                                  clear HO_16
                                  clear BK467
                                  clear HB
                                  have HO_15 := n0_
                                  have HO_16 := n1_
                                  have BK467 := n2_
                                  have HB := n3_
                                  clear n0_ n1_ n2_ n3_
                                  have p489 : 0 ≤ (x17_4 : Int) := of_decide_eq_true (by first | (with_reducible assumption) | assumption)
                                  have q489 : x17_4 < (t485.length : Int) := of_decide_eq_true (by first | (with_reducible assumption) | assumption)
                                  obtain ⟨ad489, e489, hx489_0⟩ := Kd.at_int (Kd.R_reads' HO_16.out).2.2 x17_4 p489 q489
                                  cases e489
                                  replace p489 := eq_true p489
                                  replace q489 := eq_true q489
                                  have p490 : 0 ≤ (x17_4 : Int) := of_decide_eq_true (by first | (with_reducible assumption) | assumption)
                                  have q490 : x17_4 < (l1.length : Int) := of_decide_eq_true (by first | (with_reducible assumption) | assumption)
                                  obtain ⟨ad490, e490, hx490_0⟩ := Kd.at_int HR1.out x17_4 p490 q490
                                  have hw490_0 := hx490_0
                                  cases e490
                                  replace hx490_0 := (HB.out.cell (World.block_lt_of_cell? w _ hx490_0)).trans hx490_0
                                  replace p490 := eq_true p490
                                  replace q490 := eq_true q490
                                  refine start_ (n := 12) (S := fun w' => w'.cell? ⟨gb467, 0, none⟩ = some (.int .i64 a4_0) ∧ w'.cell? ⟨gb467, 1, none⟩ = some (.bool a4_1) ∧ w'.cell? (ad489.add (x17_4).toNat) = some (.int .i64 (rd t485 x17_4)) ∧ w'.cell? (ad490.add (x17_4).toNat) = some (.int .i64 (rd l1 x17_4))) (ds := []) #[false, false, false, false, false, false, false, false, false, false, false, false] (by kernel_rfl) rfl rfl ⟨(blk_cell BK467.out 0).trans rfl, (blk_cell BK467.out 1).trans rfl, hx489_0, ((HB.out.cell (World.block_lt_of_cell? w _ hw490_0)).trans hw490_0)⟩ (fun hHeld => ?_); refine with_tabW bluebelllaw01_WordBack.tab14 bluebelllaw01_WordBack.bits14 (fun HT_ HW_ => ?_)
                                  generalize wr.drew = w55 at HO_15 HO_16 BK467 HB hx489_0 hx490_0 hHeld ⊢
                                  refine pure_ (i := 0) (N := some 102) (v := ?_) (a' := ?_) #[true, false, false, false, false, false, false, false, false, false, false, false] rfl rfl (any_of HT_.out (by kernel_rfl)) (fun _ _ _ h => h) (Or.inl ⟨by rfl, ?_⟩) ?_ ?_
                                  rotate_left
                                  · intro w'
                                    go_simp
                                    with_reducible rfl
                                  rotate_left
                                  · simp only [Act.put, List.setIfInBounds_toArray, List.set_cons_zero, List.set_cons_succ, i64_w, i32_w]
                                    rfl
                                  refine pure_ (i := 1) (N := some 103) (v := ?_) (a' := ?_) #[true, true, false, false, false, false, false, false, false, false, false, false] rfl rfl (any_of HT_.out (by kernel_rfl)) (fun _ _ _ h => h) (Or.inl ⟨by rfl, ?_⟩) ?_ ?_
                                  rotate_left
                                  · intro w'
                                    go_simp
                                    with_reducible rfl
                                  rotate_left
                                  · simp only [Act.put, List.setIfInBounds_toArray, List.set_cons_zero, List.set_cons_succ, i64_w, i32_w]
                                    rfl
                                  refine pure_ (i := 2) (N := some 104) (v := ?_) (a' := ?_) #[true, true, true, false, false, false, false, false, false, false, false, false] rfl rfl (any_of HT_.out (by kernel_rfl)) (fun _ _ _ h => h) (Or.inl ⟨by rfl, ?_⟩) ?_ ?_
                                  rotate_left
                                  · intro w'
                                    go_simp
                                    with_reducible rfl
                                  rotate_left
                                  · simp only [Act.put, List.setIfInBounds_toArray, List.set_cons_zero, List.set_cons_succ, i64_w, i32_w]
                                    rfl
                                  refine pure_ (i := 4) (N := some 106) (v := ?_) (a' := ?_) #[true, true, true, false, true, false, false, false, false, false, false, false] rfl rfl (any_of HT_.out (by kernel_rfl)) (fun _ _ _ h => h) (Or.inl ⟨by rfl, ?_⟩) ?_ ?_
                                  rotate_left
                                  · intro w'
                                    go_simp
                                    with_reducible rfl
                                  rotate_left
                                  · simp only [Act.put, List.setIfInBounds_toArray, List.set_cons_zero, List.set_cons_succ, i64_w, i32_w]
                                    rfl
                                  refine pure_ (i := 5) (N := some 107) (v := ?_) (a' := ?_) #[true, true, true, false, true, true, false, false, false, false, false, false] rfl rfl (any_of HT_.out (by kernel_rfl)) (fun _ _ _ h => h) (Or.inl ⟨by rfl, ?_⟩) ?_ ?_
                                  rotate_left
                                  · intro w'
                                    go_simp
                                    with_reducible rfl
                                  rotate_left
                                  · simp only [Act.put, List.setIfInBounds_toArray, List.set_cons_zero, List.set_cons_succ, i64_w, i32_w]
                                    rfl
                                  refine pure_ (i := 6) (N := some 108) (v := ?_) (a' := ?_) #[true, true, true, false, true, true, true, false, false, false, false, false] rfl rfl (any_of HT_.out (by kernel_rfl)) (fun _ _ _ h => h) (Or.inl ⟨by rfl, ?_⟩) ?_ ?_
                                  rotate_left
                                  · intro w'
                                    go_simp
                                    with_reducible rfl
                                  rotate_left
                                  · simp only [Act.put, List.setIfInBounds_toArray, List.set_cons_zero, List.set_cons_succ, i64_w, i32_w]
                                    rfl
                                  refine pure_ (i := 8) (N := some 110) (v := ?_) (a' := ?_) #[true, true, true, false, true, true, true, false, true, false, false, false] rfl rfl (any_of HT_.out (by kernel_rfl)) (fun _ _ _ h => h) (Or.inl ⟨by rfl, ?_⟩) ?_ ?_
                                  rotate_left
                                  · intro w'
                                    go_simp
                                    with_reducible rfl
                                  rotate_left
                                  · simp only [Act.put, List.setIfInBounds_toArray, List.set_cons_zero, List.set_cons_succ, i64_w, i32_w]
                                    rfl
                                  refine take_ (i := 3) (N := some 105) (v := ?_) (a' := ?_) #[true, true, true, true, true, true, true, false, true, false, false, false] rfl rfl (take_ofW HT_.out HW_.out (by kernel_rfl)) (fun _ _ _ h => h) (Or.inl ⟨by rfl, ?_⟩) hHeld ?_ ?_
                                  rotate_left
                                  · rintro w' ⟨s0, s1, s2, s3⟩
                                    go_simp
                                    with_reducible rfl
                                  rotate_left
                                  · simp only [Act.put, List.setIfInBounds_toArray, List.set_cons_zero, List.set_cons_succ, i64_w, i32_w]
                                    rfl
                                  refine take_ (i := 7) (N := some 109) (v := ?_) (a' := ?_) #[true, true, true, true, true, true, true, true, true, false, false, false] rfl rfl (take_ofW HT_.out HW_.out (by kernel_rfl)) (fun _ _ _ h => h) (Or.inl ⟨by rfl, ?_⟩) hHeld ?_ ?_
                                  rotate_left
                                  · rintro w' ⟨s0, s1, s2, s3⟩
                                    go_simp
                                    with_reducible rfl
                                  rotate_left
                                  · simp only [Act.put, List.setIfInBounds_toArray, List.set_cons_zero, List.set_cons_succ, i64_w, i32_w]
                                    rfl
                                  refine take_ (i := 9) (N := some 111) (v := ?_) (a' := ?_) #[true, true, true, true, true, true, true, true, true, true, false, false] rfl rfl (take_ofW HT_.out HW_.out (by kernel_rfl)) (fun _ _ _ h => h) (Or.inl ⟨by rfl, ?_⟩) hHeld ?_ ?_
                                  rotate_left
                                  · rintro w' ⟨s0, s1, s2, s3⟩
                                    go_simp
                                    with_reducible rfl
                                  rotate_left
                                  · simp only [Act.put, List.setIfInBounds_toArray, List.set_cons_zero, List.set_cons_succ, i64_w, i32_w]
                                    rfl
                                  refine one_ (i := 10) (N := some 112) #[true, true, true, true, true, true, true, true, true, true, true, false] rfl rfl (one_of HT_.out (by kernel_rfl)) (by decide) (fun K hK => ?_)
                                  refine goes_ Try.func17 (by kernel_rfl) rfl #[.int .i64 (rd l1 x17_4), .int .i64 a4_0] (by rfl) rfl rfl (by (try simp only [List.map_toArray, List.map_cons, List.map_nil]); first | done | rfl | (simp only [List.length_drop, List.length_take]; rfl)) ?_
                                  with_reducible refine (bluebellref01_Word.calls k4 (rd l1 x17_4) a4_0 t491 _ A50.out).mono ?_
                                  rintro e w' ⟨rfl, ⟨nd, rfl⟩⟩
                                  refine ⟨_, rfl, ?_⟩
                                  refine hK.out _ _ ⟨(blk_cell BK467.out 0).trans rfl, (blk_cell BK467.out 1).trans rfl, hHeld.2.2.1, ((HB.out.cell (World.block_lt_of_cell? w _ hw490_0)).trans hw490_0)⟩ (fun hHeld => ?_)
                                  clear hK K
                                  refine norm_ (a' := ?_) ?_ ?_
                                  rotate_left
                                  · show Act.put _ (some 112) _ = _
                                    simp only [Act.put, List.setIfInBounds_toArray, List.set_cons_zero, List.set_cons_succ, i64_w, i32_w]
                                    rfl
                                  refine pure_ (i := 11) (N := some 113) (v := ?_) (a' := ?_) #[true, true, true, true, true, true, true, true, true, true, true, true] rfl rfl (any_of HT_.out (by kernel_rfl)) (fun _ _ _ h => h) (Or.inl ⟨by rfl, ?_⟩) ?_ ?_
                                  rotate_left
                                  · intro w'
                                    go_simp
                                    with_reducible rfl
                                  rotate_left
                                  · simp only [Act.put, List.setIfInBounds_toArray, List.set_cons_zero, List.set_cons_succ, i64_w, i32_w]
                                    rfl
                                  refine done_ (done_of HT_.out (by kernel_rfl)) ?_
                                  try go_wp2
                                  go_ret
                                  exact ⟨by first | rfl | (simp [errW_none, errW_some] <;> rfl) | (simp [*, errW_none, errW_some] <;> rfl), by repeat (first | (with_reducible first | exact HB.out | apply below_alloc | apply pw_below_drewN | apply below_drew1 | refine below_set ?_ GE467.out) | exact HB.out)⟩
                              · rw [if_neg c49] at H
                                exact absurd H (by simp)
                            · rw [if_neg c48] at H
                              exact absurd H (by simp)
                          · rw [if_neg c47] at H
                            have c47b0 : decide (x17_4 < (t485.length : Int)) = false := decide_eq_false c47
                            clear c47
                            replace H := Option.bind_eq_some_iff.mp H
                            obtain ⟨⟨t492, t495⟩, A560, H⟩ := H
                            replace H : (if t495 = 0 then (bluebelllaw01_WordBack.l1 k4 a2 a3 t481 t492 0 a4_0 a4_1) else ((bluebelllaw01_awake.f k4).bind fun t496 => (some t496))) = some r := H
                            have A56 := Aside0.mk A560
                            clear A560
                            by_cases c57 : t495 = 0
                            · rw [if_pos c57] at H
                              have c57b0 : (t495 == 0) = true := beq_iff_eq.mpr c57
                              have c57b1 : (t495 != 0) = false := bne_eq_false_iff_eq.mpr c57
                              clear c57
                              have H' := Aside0.mk H
                              clear H
                              obtain ⟨Ao58, co58, eo58⟩ := Kd.R_slice HO_16.out
                              subst eo58
                              have hcz59_0 : wr.cell? ⟨gb467, 0, none⟩ = some (.int .i64 a4_0) := (blk_cell BK467.out 0).trans rfl
                              have hcz59_1 : wr.cell? ⟨gb467, 1, none⟩ = some (.bool a4_1) := (blk_cell BK467.out 1).trans rfl
                              have hfz59_0 := blk_frozen BK467.out 0
                              have hfz59_1 := blk_frozen BK467.out 1
                              go_wp2_with (first | ((with_reducible refine gate_callee (f := 30) rfl ?_); refine goesL_ (some 119) rfl rfl Try.func30 (by kernel_rfl) rfl #[.slice A1 l1.length c1, .int .i64 a2, .int .i64 a3, .agg #[.int .i64 a4_0, .bool a4_1]] rfl (by (try simp only [List.map_toArray, List.map_cons, List.map_nil]); first | done | rfl | (simp only [List.length_drop, List.length_take]; rfl)) ?_; (with_reducible refine (word_PutByte.calls k4 _ _ l1 a2 a3 a4_0 a4_1 t492 t495 _ ?side1 ?side2 A56.out).mono ?_); (case side1 => repeat (first | exact (Kd.C_below HR1.out HB.out) | (with_reducible refine Kd.C_alloc ?_ _) | (with_reducible refine Kd.C_drewN ?_ _) | (with_reducible refine Kd.C_drew ?_))); (case side2 => exact HC1.out); rintro e w60 ⟨v493, rfl, ho0, hb⟩; refine ⟨_, rfl, ?_⟩; have n0_ := Aside0.mk (Kd.R_below (by (with_reducible repeat (first | apply Kd.R_alloc | apply Kd.R_drewN | apply Kd.R_drew)); exact HO_15.out) hb); have n1_ := Aside0.mk (Kd.R_elder' (by (with_reducible repeat (first | apply Kd.R_alloc | apply Kd.R_drewN | apply Kd.R_drew)); exact HO_16.out) (Kd.R_base ho0) hb); have n2_ := Aside0.mk (Kd.R_lower (Kd.R_new' ho0 (Kd.R_lt (by (with_reducible repeat (first | apply Kd.R_alloc | apply Kd.R_drewN | apply Kd.R_drew)); exact HO_16.out))) (below_size (by repeat (first | (with_reducible first | exact HB.out | apply below_alloc | apply pw_below_drewN | apply below_drew1 | refine below_set ?_ GE467.out) | exact HB.out)))); have n3_ := Aside0.mk (blk_below (g := gb467) (o := .cells #[.int .i64 a4_0, .bool a4_1] 37 (0, 0)) (by (with_reducible repeat (first | refine blk_drewN ?_ _ | refine blk_drew ?_ | refine blk_alloc ?_ _)); exact BK467.out) hb); have n4_ := Aside0.mk (below_step (by repeat (first | (with_reducible first | exact HB.out | apply below_alloc | apply pw_below_drewN | apply below_drew1 | refine below_set ?_ GE467.out) | exact HB.out)) hb); clear HO_15; clear HO_16; clear BK467; clear HB; have HO_15 := n0_; have HO_16 := n1_; have HO494 := n2_; have BK467 := n3_; have HB := n4_; clear n0_ n1_ n2_ n3_ n4_; (try clear hb); (try clear hb2); (try clear hk); (try clear hi); (try clear ho0)))
                              go_loopg [19] k4 (fun kq v19 w' => ∃ (x19_5 : Int), v19 = .int .i64 x19_5 ∧ Aside0 (bluebelllaw01_WordBack.l1 kq a2 a3 t481 t492 x19_5 a4_0 a4_1 = some r) ∧ Aside0 (kq ≤ k4) ∧ Aside0 (Kd.R (Kd.int .u8) 5 w' w.heap.size (fun _ => True) (.slice Ao41 t481.length co41) t481) ∧ Aside0 (Kd.R (Kd.int .i64) 3 w' w.heap.size (fun _ => True) v493 t492) ∧ Aside0 (w'.heap[gb467]? = some (.cells #[.int .i64 a4_0, .bool a4_1] 37 (0, 0))) ∧ Aside0 (Below w.heap.size w w'))
                              case atStart => exact ⟨(0), (by first | rfl | (simp; done) | (simp [*]; done)), H', ⟨Nat.le_refl _⟩, ⟨by (with_reducible repeat (first | apply Kd.R_alloc | apply Kd.R_drewN | apply Kd.R_drew)); exact HO_15.out⟩, ⟨by (with_reducible repeat (first | apply Kd.R_alloc | apply Kd.R_drewN | apply Kd.R_drew)); exact Kd.R_mono HO494.out (fun _ hk => trivial)⟩, ⟨by (with_reducible repeat (first | refine blk_drewN ?_ _ | refine blk_drew ?_ | refine blk_alloc ?_ _)); exact BK467.out⟩, ⟨by repeat (first | (with_reducible first | exact HB.out | apply below_alloc | apply pw_below_drewN | apply below_drew1 | refine below_set ?_ GE467.out) | exact HB.out)⟩⟩
                              case round =>
                                clear H'
                                try clear c1
                                try clear c2
                                try clear p2
                                try clear c3
                                try clear c4
                                try clear p4
                                try clear q4
                                try clear hx4
                                try clear c5
                                try clear p6
                                try clear c9
                                try clear c10
                                try clear c10b0
                                try clear c10b1
                                try clear c12
                                try clear c17
                                try clear c20
                                try clear c30
                                try clear c31
                                try clear c31b0
                                try clear c31b1
                                try clear c32
                                try clear c32b0
                                try clear c32b1
                                try clear c33
                                try clear c33b0
                                try clear c33b1
                                try clear c34
                                try clear c35
                                try clear c37
                                try clear c40
                                try clear c42
                                try clear c43
                                try clear c43b0
                                try clear c43b1
                                try clear c44
                                try clear c44b0
                                try clear c44b1
                                try clear c46
                                try clear c47
                                try clear c47b0
                                try clear c48
                                try clear c48b0
                                try clear p48
                                try clear q48
                                try clear hx48
                                try clear c49
                                try clear c49b0
                                try clear p49
                                try clear q49
                                try clear hx49
                                try clear c51
                                try clear c51b0
                                try clear c51b1
                                try clear c57
                                try clear c57b0
                                try clear c57b1
                                try clear hcz11_0
                                try clear hcz11_1
                                try clear hcz13_0
                                try clear hcz13_1
                                try clear hcz15_0
                                try clear hcz15_1
                                try clear hcz23_0
                                try clear hcz23_1
                                try clear hcz38_0
                                try clear hcz38_1
                                try clear hcz40_0
                                try clear hcz40_1
                                try clear hcz59_0
                                try clear hcz59_1
                                try clear hfz11_0
                                try clear hfz11_1
                                try clear hfz13_0
                                try clear hfz13_1
                                try clear hfz15_0
                                try clear hfz15_1
                                try clear hfz23_0
                                try clear hfz23_1
                                try clear hfz38_0
                                try clear hfz38_1
                                try clear hfz40_0
                                try clear hfz40_1
                                try clear hfz59_0
                                try clear hfz59_1
                                try clear hx489_0
                                try clear hx490_0
                                try clear p2
                                try clear p489
                                try clear p490
                                try clear p6
                                try clear q489
                                try clear q490
                                obtain ⟨x19_5, rfl, HA, HK5, HO_15, HO_18, BK467, HB⟩ := hrel
                                cases gk with
                                | zero => exact absurd HA.out (by simp [bluebelllaw01_WordBack.l1])
                                | succ k5 =>
                                  have H := HA.out
                                  clear HA
                                  simp only [bluebelllaw01_WordBack.l1] at H
                                  by_cases c61 : x19_5 < (t481.length : Int)
                                  · rw [if_pos c61] at H
                                    have c61b0 : decide (x19_5 < (t481.length : Int)) = true := decide_eq_true c61
                                    clear c61
                                    replace H := Option.bind_eq_some_iff.mp H
                                    obtain ⟨⟨t498, t499⟩, A620, H⟩ := H
                                    replace H : (if 0 ≤ x19_5 then (if x19_5 = a2 then (if t499 = 0 then (if t498 = (Go.bits .and .i64 a3 255) then (bluebelllaw01_WordBack.l1 k5 a2 a3 t481 t492 (wrap64 (x19_5 + 1)) a4_0 a4_1) else (some false)) else (some false)) else (if t499 = 0 then (if t498 = (wrap64 (rd t481 x19_5)) then (bluebelllaw01_WordBack.l1 k5 a2 a3 t481 t492 (wrap64 (x19_5 + 1)) a4_0 a4_1) else (some false)) else (some false))) else (none)) = some r := H
                                    have A62 := Aside0.mk A620
                                    clear A620
                                    by_cases c63 : 0 ≤ x19_5
                                    · rw [if_pos c63] at H
                                      have c63b0 : decide (0 ≤ x19_5) = true := decide_eq_true c63
                                      clear c63
                                      by_cases c64 : x19_5 = a2
                                      · rw [if_pos c64] at H
                                        have c64b0 : (x19_5 == a2) = true := beq_iff_eq.mpr c64
                                        have c64b1 : (x19_5 != a2) = false := bne_eq_false_iff_eq.mpr c64
                                        clear c64
                                        by_cases c65 : t499 = 0
                                        · rw [if_pos c65] at H
                                          have c65b0 : (t499 == 0) = true := beq_iff_eq.mpr c65
                                          have c65b1 : (t499 != 0) = false := bne_eq_false_iff_eq.mpr c65
                                          clear c65
                                          by_cases c66 : t498 = (Go.bits .and .i64 a3 255)
                                          · rw [if_pos c66] at H
                                            have c66b0 : (t498 == (Go.bits .and .i64 a3 255)) = true := beq_iff_eq.mpr c66
                                            have c66b1 : (t498 != (Go.bits .and .i64 a3 255)) = false := bne_eq_false_iff_eq.mpr c66
                                            clear c66
                                            have H' := Aside0.mk H
                                            clear H
                                            have hcz67_0 : wr.cell? ⟨gb467, 0, none⟩ = some (.int .i64 a4_0) := (blk_cell BK467.out 0).trans rfl
                                            have hcz67_1 : wr.cell? ⟨gb467, 1, none⟩ = some (.bool a4_1) := (blk_cell BK467.out 1).trans rfl
                                            have hfz67_0 := blk_frozen BK467.out 0
                                            have hfz67_1 := blk_frozen BK467.out 1
                                            obtain ⟨Ao68, co68, eo68⟩ := Kd.R_slice HO_18.out
                                            subst eo68
                                            go_wp2_with (first | ((with_reducible refine gate_callee (f := 28) rfl ?_); refine goesL_ (some 135) rfl rfl Try.func28 (by kernel_rfl) rfl #[.slice Ao68 t492.length co68, .int .i64 x19_5, .agg #[.int .i64 a4_0, .bool a4_1]] rfl (by (try simp only [List.map_toArray, List.map_cons, List.map_nil]); first | done | rfl | (simp only [List.length_drop, List.length_take]; rfl)) ?_; (with_reducible refine (word_GetByte.calls _ _ t492 x19_5 a4_0 a4_1 t498 t499 _ ?side1 ?side2 A62.out).mono ?_); (case side1 => repeat (first | exact (Kd.R_reads' HO_18.out).2.2 | (with_reducible refine Kd.C_alloc ?_ _) | (with_reducible refine Kd.C_drewN ?_ _) | (with_reducible refine Kd.C_drew ?_))); (case side2 => exact (Kd.R_reads' HO_18.out).2.1); rintro e w69 ⟨rfl, hb⟩; refine ⟨_, rfl, ?_⟩; have n0_ := Aside0.mk (Kd.R_below (by (with_reducible repeat (first | apply Kd.R_alloc | apply Kd.R_drewN | apply Kd.R_drew)); exact HO_15.out) hb); have n1_ := Aside0.mk (Kd.R_below (by (with_reducible repeat (first | apply Kd.R_alloc | apply Kd.R_drewN | apply Kd.R_drew)); exact HO_18.out) hb); have n2_ := Aside0.mk (blk_below (g := gb467) (o := .cells #[.int .i64 a4_0, .bool a4_1] 37 (0, 0)) (by (with_reducible repeat (first | refine blk_drewN ?_ _ | refine blk_drew ?_ | refine blk_alloc ?_ _)); exact BK467.out) hb); have n3_ := Aside0.mk (below_step (by repeat (first | (with_reducible first | exact HB.out | apply below_alloc | apply pw_below_drewN | apply below_drew1 | refine below_set ?_ GE467.out) | exact HB.out)) hb); clear HO_15; clear HO_18; clear BK467; clear HB; have HO_15 := n0_; have HO_18 := n1_; have BK467 := n2_; have HB := n3_; clear n0_ n1_ n2_ n3_; (try clear hb); (try clear hb2); (try clear hk); (try clear hi); have p500 : 0 ≤ (x19_5 : Int) := of_decide_eq_true (by first | (with_reducible assumption) | assumption); have q500 : x19_5 < (t481.length : Int) := of_decide_eq_true (by first | (with_reducible assumption) | assumption); obtain ⟨ad500, e500, hx500_0⟩ := Kd.at_int (Kd.R_reads' HO_15.out).2.2 x19_5 p500 q500; cases e500; replace p500 := eq_true p500; replace q500 := eq_true q500))
                                            go_roundg k5
                                            case measure => have := HJ5.out; have := HJ21.out; have := HJ36.out; have := HK4.out; have := HK5.out; omega
                                            case rel => exact ⟨(wrap64 (x19_5 + 1)), (by first | rfl | (simp; done) | (simp [*]; done)), H', ⟨by have := HJ5.out; have := HJ21.out; have := HJ36.out; have := HK4.out; have := HK5.out; omega⟩, ⟨by (with_reducible repeat (first | apply Kd.R_alloc | apply Kd.R_drewN | apply Kd.R_drew)); exact HO_15.out⟩, ⟨by (with_reducible repeat (first | apply Kd.R_alloc | apply Kd.R_drewN | apply Kd.R_drew)); exact HO_18.out⟩, ⟨by (with_reducible repeat (first | refine blk_drewN ?_ _ | refine blk_drew ?_ | refine blk_alloc ?_ _)); exact BK467.out⟩, ⟨by repeat (first | (with_reducible first | exact HB.out | apply below_alloc | apply pw_below_drewN | apply below_drew1 | refine below_set ?_ GE467.out) | exact HB.out)⟩⟩
                                          · rw [if_neg c66] at H
                                            have c66b0 : (t498 == (Go.bits .and .i64 a3 255)) = false := beq_eq_false_iff_ne.mpr c66
                                            have c66b1 : (t498 != (Go.bits .and .i64 a3 255)) = true := bne_iff_ne.mpr c66
                                            obtain rfl := Option.some.inj H
                                            have hcz70_0 : wr.cell? ⟨gb467, 0, none⟩ = some (.int .i64 a4_0) := (blk_cell BK467.out 0).trans rfl
                                            have hcz70_1 : wr.cell? ⟨gb467, 1, none⟩ = some (.bool a4_1) := (blk_cell BK467.out 1).trans rfl
                                            have hfz70_0 := blk_frozen BK467.out 0
                                            have hfz70_1 := blk_frozen BK467.out 1
                                            obtain ⟨Ao71, co71, eo71⟩ := Kd.R_slice HO_18.out
                                            subst eo71
                                            go_wp2_with (first | ((with_reducible refine gate_callee (f := 28) rfl ?_); refine goesL_ (some 135) rfl rfl Try.func28 (by kernel_rfl) rfl #[.slice Ao71 t492.length co71, .int .i64 x19_5, .agg #[.int .i64 a4_0, .bool a4_1]] rfl (by (try simp only [List.map_toArray, List.map_cons, List.map_nil]); first | done | rfl | (simp only [List.length_drop, List.length_take]; rfl)) ?_; (with_reducible refine (word_GetByte.calls _ _ t492 x19_5 a4_0 a4_1 t498 t499 _ ?side1 ?side2 A62.out).mono ?_); (case side1 => repeat (first | exact (Kd.R_reads' HO_18.out).2.2 | (with_reducible refine Kd.C_alloc ?_ _) | (with_reducible refine Kd.C_drewN ?_ _) | (with_reducible refine Kd.C_drew ?_))); (case side2 => exact (Kd.R_reads' HO_18.out).2.1); rintro e w72 ⟨rfl, hb⟩; refine ⟨_, rfl, ?_⟩; have n0_ := Aside0.mk (Kd.R_below (by (with_reducible repeat (first | apply Kd.R_alloc | apply Kd.R_drewN | apply Kd.R_drew)); exact HO_15.out) hb); have n1_ := Aside0.mk (Kd.R_below (by (with_reducible repeat (first | apply Kd.R_alloc | apply Kd.R_drewN | apply Kd.R_drew)); exact HO_18.out) hb); have n2_ := Aside0.mk (blk_below (g := gb467) (o := .cells #[.int .i64 a4_0, .bool a4_1] 37 (0, 0)) (by (with_reducible repeat (first | refine blk_drewN ?_ _ | refine blk_drew ?_ | refine blk_alloc ?_ _)); exact BK467.out) hb); have n3_ := Aside0.mk (below_step (by repeat (first | (with_reducible first | exact HB.out | apply below_alloc | apply pw_below_drewN | apply below_drew1 | refine below_set ?_ GE467.out) | exact HB.out)) hb); clear HO_15; clear HO_18; clear BK467; clear HB; have HO_15 := n0_; have HO_18 := n1_; have BK467 := n2_; have HB := n3_; clear n0_ n1_ n2_ n3_; (try clear hb); (try clear hb2); (try clear hk); (try clear hi); have p500 : 0 ≤ (x19_5 : Int) := of_decide_eq_true (by first | (with_reducible assumption) | assumption); have q500 : x19_5 < (t481.length : Int) := of_decide_eq_true (by first | (with_reducible assumption) | assumption); obtain ⟨ad500, e500, hx500_0⟩ := Kd.at_int (Kd.R_reads' HO_15.out).2.2 x19_5 p500 q500; cases e500; replace p500 := eq_true p500; replace q500 := eq_true q500))
                                            go_ret
                                            exact ⟨by first | rfl | (simp [errW_none, errW_some] <;> rfl) | (simp [*, errW_none, errW_some] <;> rfl), by repeat (first | (with_reducible first | exact HB.out | apply below_alloc | apply pw_below_drewN | apply below_drew1 | refine below_set ?_ GE467.out) | exact HB.out)⟩
                                        · rw [if_neg c65] at H
                                          have c65b0 : (t499 == 0) = false := beq_eq_false_iff_ne.mpr c65
                                          have c65b1 : (t499 != 0) = true := bne_iff_ne.mpr c65
                                          obtain rfl := Option.some.inj H
                                          have hcz73_0 : wr.cell? ⟨gb467, 0, none⟩ = some (.int .i64 a4_0) := (blk_cell BK467.out 0).trans rfl
                                          have hcz73_1 : wr.cell? ⟨gb467, 1, none⟩ = some (.bool a4_1) := (blk_cell BK467.out 1).trans rfl
                                          have hfz73_0 := blk_frozen BK467.out 0
                                          have hfz73_1 := blk_frozen BK467.out 1
                                          obtain ⟨Ao74, co74, eo74⟩ := Kd.R_slice HO_18.out
                                          subst eo74
                                          go_wp2_with (first | ((with_reducible refine gate_callee (f := 28) rfl ?_); refine goesL_ (some 135) rfl rfl Try.func28 (by kernel_rfl) rfl #[.slice Ao74 t492.length co74, .int .i64 x19_5, .agg #[.int .i64 a4_0, .bool a4_1]] rfl (by (try simp only [List.map_toArray, List.map_cons, List.map_nil]); first | done | rfl | (simp only [List.length_drop, List.length_take]; rfl)) ?_; (with_reducible refine (word_GetByte.calls _ _ t492 x19_5 a4_0 a4_1 t498 t499 _ ?side1 ?side2 A62.out).mono ?_); (case side1 => repeat (first | exact (Kd.R_reads' HO_18.out).2.2 | (with_reducible refine Kd.C_alloc ?_ _) | (with_reducible refine Kd.C_drewN ?_ _) | (with_reducible refine Kd.C_drew ?_))); (case side2 => exact (Kd.R_reads' HO_18.out).2.1); rintro e w75 ⟨rfl, hb⟩; refine ⟨_, rfl, ?_⟩; have n0_ := Aside0.mk (Kd.R_below (by (with_reducible repeat (first | apply Kd.R_alloc | apply Kd.R_drewN | apply Kd.R_drew)); exact HO_15.out) hb); have n1_ := Aside0.mk (Kd.R_below (by (with_reducible repeat (first | apply Kd.R_alloc | apply Kd.R_drewN | apply Kd.R_drew)); exact HO_18.out) hb); have n2_ := Aside0.mk (blk_below (g := gb467) (o := .cells #[.int .i64 a4_0, .bool a4_1] 37 (0, 0)) (by (with_reducible repeat (first | refine blk_drewN ?_ _ | refine blk_drew ?_ | refine blk_alloc ?_ _)); exact BK467.out) hb); have n3_ := Aside0.mk (below_step (by repeat (first | (with_reducible first | exact HB.out | apply below_alloc | apply pw_below_drewN | apply below_drew1 | refine below_set ?_ GE467.out) | exact HB.out)) hb); clear HO_15; clear HO_18; clear BK467; clear HB; have HO_15 := n0_; have HO_18 := n1_; have BK467 := n2_; have HB := n3_; clear n0_ n1_ n2_ n3_; (try clear hb); (try clear hb2); (try clear hk); (try clear hi); have p500 : 0 ≤ (x19_5 : Int) := of_decide_eq_true (by first | (with_reducible assumption) | assumption); have q500 : x19_5 < (t481.length : Int) := of_decide_eq_true (by first | (with_reducible assumption) | assumption); obtain ⟨ad500, e500, hx500_0⟩ := Kd.at_int (Kd.R_reads' HO_15.out).2.2 x19_5 p500 q500; cases e500; replace p500 := eq_true p500; replace q500 := eq_true q500))
                                          go_ret
                                          exact ⟨by first | rfl | (simp [errW_none, errW_some] <;> rfl) | (simp [*, errW_none, errW_some] <;> rfl), by repeat (first | (with_reducible first | exact HB.out | apply below_alloc | apply pw_below_drewN | apply below_drew1 | refine below_set ?_ GE467.out) | exact HB.out)⟩
                                      · rw [if_neg c64] at H
                                        have c64b0 : (x19_5 == a2) = false := beq_eq_false_iff_ne.mpr c64
                                        have c64b1 : (x19_5 != a2) = true := bne_iff_ne.mpr c64
                                        by_cases c76 : t499 = 0
                                        · rw [if_pos c76] at H
                                          have c76b0 : (t499 == 0) = true := beq_iff_eq.mpr c76
                                          have c76b1 : (t499 != 0) = false := bne_eq_false_iff_eq.mpr c76
                                          clear c76
                                          by_cases c77 : t498 = (wrap64 (rd t481 x19_5))
                                          · rw [if_pos c77] at H
                                            have c77b0 : (t498 == (wrap64 (rd t481 x19_5))) = true := beq_iff_eq.mpr c77
                                            have c77b1 : (t498 != (wrap64 (rd t481 x19_5))) = false := bne_eq_false_iff_eq.mpr c77
                                            clear c77
                                            have H' := Aside0.mk H
                                            clear H
                                            have hcz78_0 : wr.cell? ⟨gb467, 0, none⟩ = some (.int .i64 a4_0) := (blk_cell BK467.out 0).trans rfl
                                            have hcz78_1 : wr.cell? ⟨gb467, 1, none⟩ = some (.bool a4_1) := (blk_cell BK467.out 1).trans rfl
                                            have hfz78_0 := blk_frozen BK467.out 0
                                            have hfz78_1 := blk_frozen BK467.out 1
                                            obtain ⟨Ao79, co79, eo79⟩ := Kd.R_slice HO_18.out
                                            subst eo79
                                            go_wp2_with (first | ((with_reducible refine gate_callee (f := 28) rfl ?_); refine goesL_ (some 135) rfl rfl Try.func28 (by kernel_rfl) rfl #[.slice Ao79 t492.length co79, .int .i64 x19_5, .agg #[.int .i64 a4_0, .bool a4_1]] rfl (by (try simp only [List.map_toArray, List.map_cons, List.map_nil]); first | done | rfl | (simp only [List.length_drop, List.length_take]; rfl)) ?_; (with_reducible refine (word_GetByte.calls _ _ t492 x19_5 a4_0 a4_1 t498 t499 _ ?side1 ?side2 A62.out).mono ?_); (case side1 => repeat (first | exact (Kd.R_reads' HO_18.out).2.2 | (with_reducible refine Kd.C_alloc ?_ _) | (with_reducible refine Kd.C_drewN ?_ _) | (with_reducible refine Kd.C_drew ?_))); (case side2 => exact (Kd.R_reads' HO_18.out).2.1); rintro e w80 ⟨rfl, hb⟩; refine ⟨_, rfl, ?_⟩; have n0_ := Aside0.mk (Kd.R_below (by (with_reducible repeat (first | apply Kd.R_alloc | apply Kd.R_drewN | apply Kd.R_drew)); exact HO_15.out) hb); have n1_ := Aside0.mk (Kd.R_below (by (with_reducible repeat (first | apply Kd.R_alloc | apply Kd.R_drewN | apply Kd.R_drew)); exact HO_18.out) hb); have n2_ := Aside0.mk (blk_below (g := gb467) (o := .cells #[.int .i64 a4_0, .bool a4_1] 37 (0, 0)) (by (with_reducible repeat (first | refine blk_drewN ?_ _ | refine blk_drew ?_ | refine blk_alloc ?_ _)); exact BK467.out) hb); have n3_ := Aside0.mk (below_step (by repeat (first | (with_reducible first | exact HB.out | apply below_alloc | apply pw_below_drewN | apply below_drew1 | refine below_set ?_ GE467.out) | exact HB.out)) hb); clear HO_15; clear HO_18; clear BK467; clear HB; have HO_15 := n0_; have HO_18 := n1_; have BK467 := n2_; have HB := n3_; clear n0_ n1_ n2_ n3_; (try clear hb); (try clear hb2); (try clear hk); (try clear hi); have p500 : 0 ≤ (x19_5 : Int) := of_decide_eq_true (by first | (with_reducible assumption) | assumption); have q500 : x19_5 < (t481.length : Int) := of_decide_eq_true (by first | (with_reducible assumption) | assumption); obtain ⟨ad500, e500, hx500_0⟩ := Kd.at_int (Kd.R_reads' HO_15.out).2.2 x19_5 p500 q500; cases e500; replace p500 := eq_true p500; replace q500 := eq_true q500))
                                            go_roundg k5
                                            case measure => have := HJ5.out; have := HJ21.out; have := HJ36.out; have := HK4.out; have := HK5.out; omega
                                            case rel => exact ⟨(wrap64 (x19_5 + 1)), (by first | rfl | (simp; done) | (simp [*]; done)), H', ⟨by have := HJ5.out; have := HJ21.out; have := HJ36.out; have := HK4.out; have := HK5.out; omega⟩, ⟨by (with_reducible repeat (first | apply Kd.R_alloc | apply Kd.R_drewN | apply Kd.R_drew)); exact HO_15.out⟩, ⟨by (with_reducible repeat (first | apply Kd.R_alloc | apply Kd.R_drewN | apply Kd.R_drew)); exact HO_18.out⟩, ⟨by (with_reducible repeat (first | refine blk_drewN ?_ _ | refine blk_drew ?_ | refine blk_alloc ?_ _)); exact BK467.out⟩, ⟨by repeat (first | (with_reducible first | exact HB.out | apply below_alloc | apply pw_below_drewN | apply below_drew1 | refine below_set ?_ GE467.out) | exact HB.out)⟩⟩
                                          · rw [if_neg c77] at H
                                            have c77b0 : (t498 == (wrap64 (rd t481 x19_5))) = false := beq_eq_false_iff_ne.mpr c77
                                            have c77b1 : (t498 != (wrap64 (rd t481 x19_5))) = true := bne_iff_ne.mpr c77
                                            obtain rfl := Option.some.inj H
                                            have hcz81_0 : wr.cell? ⟨gb467, 0, none⟩ = some (.int .i64 a4_0) := (blk_cell BK467.out 0).trans rfl
                                            have hcz81_1 : wr.cell? ⟨gb467, 1, none⟩ = some (.bool a4_1) := (blk_cell BK467.out 1).trans rfl
                                            have hfz81_0 := blk_frozen BK467.out 0
                                            have hfz81_1 := blk_frozen BK467.out 1
                                            obtain ⟨Ao82, co82, eo82⟩ := Kd.R_slice HO_18.out
                                            subst eo82
                                            go_wp2_with (first | ((with_reducible refine gate_callee (f := 28) rfl ?_); refine goesL_ (some 135) rfl rfl Try.func28 (by kernel_rfl) rfl #[.slice Ao82 t492.length co82, .int .i64 x19_5, .agg #[.int .i64 a4_0, .bool a4_1]] rfl (by (try simp only [List.map_toArray, List.map_cons, List.map_nil]); first | done | rfl | (simp only [List.length_drop, List.length_take]; rfl)) ?_; (with_reducible refine (word_GetByte.calls _ _ t492 x19_5 a4_0 a4_1 t498 t499 _ ?side1 ?side2 A62.out).mono ?_); (case side1 => repeat (first | exact (Kd.R_reads' HO_18.out).2.2 | (with_reducible refine Kd.C_alloc ?_ _) | (with_reducible refine Kd.C_drewN ?_ _) | (with_reducible refine Kd.C_drew ?_))); (case side2 => exact (Kd.R_reads' HO_18.out).2.1); rintro e w83 ⟨rfl, hb⟩; refine ⟨_, rfl, ?_⟩; have n0_ := Aside0.mk (Kd.R_below (by (with_reducible repeat (first | apply Kd.R_alloc | apply Kd.R_drewN | apply Kd.R_drew)); exact HO_15.out) hb); have n1_ := Aside0.mk (Kd.R_below (by (with_reducible repeat (first | apply Kd.R_alloc | apply Kd.R_drewN | apply Kd.R_drew)); exact HO_18.out) hb); have n2_ := Aside0.mk (blk_below (g := gb467) (o := .cells #[.int .i64 a4_0, .bool a4_1] 37 (0, 0)) (by (with_reducible repeat (first | refine blk_drewN ?_ _ | refine blk_drew ?_ | refine blk_alloc ?_ _)); exact BK467.out) hb); have n3_ := Aside0.mk (below_step (by repeat (first | (with_reducible first | exact HB.out | apply below_alloc | apply pw_below_drewN | apply below_drew1 | refine below_set ?_ GE467.out) | exact HB.out)) hb); clear HO_15; clear HO_18; clear BK467; clear HB; have HO_15 := n0_; have HO_18 := n1_; have BK467 := n2_; have HB := n3_; clear n0_ n1_ n2_ n3_; (try clear hb); (try clear hb2); (try clear hk); (try clear hi); have p500 : 0 ≤ (x19_5 : Int) := of_decide_eq_true (by first | (with_reducible assumption) | assumption); have q500 : x19_5 < (t481.length : Int) := of_decide_eq_true (by first | (with_reducible assumption) | assumption); obtain ⟨ad500, e500, hx500_0⟩ := Kd.at_int (Kd.R_reads' HO_15.out).2.2 x19_5 p500 q500; cases e500; replace p500 := eq_true p500; replace q500 := eq_true q500))
                                            go_ret
                                            exact ⟨by first | rfl | (simp [errW_none, errW_some] <;> rfl) | (simp [*, errW_none, errW_some] <;> rfl), by repeat (first | (with_reducible first | exact HB.out | apply below_alloc | apply pw_below_drewN | apply below_drew1 | refine below_set ?_ GE467.out) | exact HB.out)⟩
                                        · rw [if_neg c76] at H
                                          have c76b0 : (t499 == 0) = false := beq_eq_false_iff_ne.mpr c76
                                          have c76b1 : (t499 != 0) = true := bne_iff_ne.mpr c76
                                          obtain rfl := Option.some.inj H
                                          have hcz84_0 : wr.cell? ⟨gb467, 0, none⟩ = some (.int .i64 a4_0) := (blk_cell BK467.out 0).trans rfl
                                          have hcz84_1 : wr.cell? ⟨gb467, 1, none⟩ = some (.bool a4_1) := (blk_cell BK467.out 1).trans rfl
                                          have hfz84_0 := blk_frozen BK467.out 0
                                          have hfz84_1 := blk_frozen BK467.out 1
                                          obtain ⟨Ao85, co85, eo85⟩ := Kd.R_slice HO_18.out
                                          subst eo85
                                          go_wp2_with (first | ((with_reducible refine gate_callee (f := 28) rfl ?_); refine goesL_ (some 135) rfl rfl Try.func28 (by kernel_rfl) rfl #[.slice Ao85 t492.length co85, .int .i64 x19_5, .agg #[.int .i64 a4_0, .bool a4_1]] rfl (by (try simp only [List.map_toArray, List.map_cons, List.map_nil]); first | done | rfl | (simp only [List.length_drop, List.length_take]; rfl)) ?_; (with_reducible refine (word_GetByte.calls _ _ t492 x19_5 a4_0 a4_1 t498 t499 _ ?side1 ?side2 A62.out).mono ?_); (case side1 => repeat (first | exact (Kd.R_reads' HO_18.out).2.2 | (with_reducible refine Kd.C_alloc ?_ _) | (with_reducible refine Kd.C_drewN ?_ _) | (with_reducible refine Kd.C_drew ?_))); (case side2 => exact (Kd.R_reads' HO_18.out).2.1); rintro e w86 ⟨rfl, hb⟩; refine ⟨_, rfl, ?_⟩; have n0_ := Aside0.mk (Kd.R_below (by (with_reducible repeat (first | apply Kd.R_alloc | apply Kd.R_drewN | apply Kd.R_drew)); exact HO_15.out) hb); have n1_ := Aside0.mk (Kd.R_below (by (with_reducible repeat (first | apply Kd.R_alloc | apply Kd.R_drewN | apply Kd.R_drew)); exact HO_18.out) hb); have n2_ := Aside0.mk (blk_below (g := gb467) (o := .cells #[.int .i64 a4_0, .bool a4_1] 37 (0, 0)) (by (with_reducible repeat (first | refine blk_drewN ?_ _ | refine blk_drew ?_ | refine blk_alloc ?_ _)); exact BK467.out) hb); have n3_ := Aside0.mk (below_step (by repeat (first | (with_reducible first | exact HB.out | apply below_alloc | apply pw_below_drewN | apply below_drew1 | refine below_set ?_ GE467.out) | exact HB.out)) hb); clear HO_15; clear HO_18; clear BK467; clear HB; have HO_15 := n0_; have HO_18 := n1_; have BK467 := n2_; have HB := n3_; clear n0_ n1_ n2_ n3_; (try clear hb); (try clear hb2); (try clear hk); (try clear hi); have p500 : 0 ≤ (x19_5 : Int) := of_decide_eq_true (by first | (with_reducible assumption) | assumption); have q500 : x19_5 < (t481.length : Int) := of_decide_eq_true (by first | (with_reducible assumption) | assumption); obtain ⟨ad500, e500, hx500_0⟩ := Kd.at_int (Kd.R_reads' HO_15.out).2.2 x19_5 p500 q500; cases e500; replace p500 := eq_true p500; replace q500 := eq_true q500))
                                          go_ret
                                          exact ⟨by first | rfl | (simp [errW_none, errW_some] <;> rfl) | (simp [*, errW_none, errW_some] <;> rfl), by repeat (first | (with_reducible first | exact HB.out | apply below_alloc | apply pw_below_drewN | apply below_drew1 | refine below_set ?_ GE467.out) | exact HB.out)⟩
                                    · rw [if_neg c63] at H
                                      exact absurd H (by simp)
                                  · rw [if_neg c61] at H
                                    have c61b0 : decide (x19_5 < (t481.length : Int)) = false := decide_eq_false c61
                                    clear c61
                                    replace H := Option.bind_eq_some_iff.mp H
                                    obtain ⟨t497, A870, H⟩ := H
                                    replace H : (some t497) = some r := H
                                    have A87 := Aside0.mk A870
                                    clear A870
                                    obtain rfl := Option.some.inj H
                                    go_wp2_with (first | ((with_reducible refine gate_callee (f := 15) rfl ?_); refine goesL_ (some 155) rfl rfl Try.func15 (by kernel_rfl) rfl #[] rfl (by (try simp only [List.map_toArray, List.map_cons, List.map_nil]); first | done | rfl | (simp only [List.length_drop, List.length_take]; rfl)) ?_; (with_reducible refine (bluebelllaw01_awake.calls k5  t497 _ A87.out).mono ?_); rintro e w88 ⟨rfl, hb⟩; refine ⟨_, rfl, ?_⟩; have n0_ := Aside0.mk (Kd.R_below (by (with_reducible repeat (first | apply Kd.R_alloc | apply Kd.R_drewN | apply Kd.R_drew)); exact HO_15.out) hb); have n1_ := Aside0.mk (Kd.R_below (by (with_reducible repeat (first | apply Kd.R_alloc | apply Kd.R_drewN | apply Kd.R_drew)); exact HO_18.out) hb); have n2_ := Aside0.mk (blk_below (g := gb467) (o := .cells #[.int .i64 a4_0, .bool a4_1] 37 (0, 0)) (by (with_reducible repeat (first | refine blk_drewN ?_ _ | refine blk_drew ?_ | refine blk_alloc ?_ _)); exact BK467.out) hb); have n3_ := Aside0.mk (below_step (by repeat (first | (with_reducible first | exact HB.out | apply below_alloc | apply pw_below_drewN | apply below_drew1 | refine below_set ?_ GE467.out) | exact HB.out)) hb); clear HO_15; clear HO_18; clear BK467; clear HB; have HO_15 := n0_; have HO_18 := n1_; have BK467 := n2_; have HB := n3_; clear n0_ n1_ n2_ n3_; (try clear hb); (try clear hb2); (try clear hk); (try clear hi)))
                                    go_ret
                                    exact ⟨by first | rfl | (simp [errW_none, errW_some] <;> rfl) | (simp [*, errW_none, errW_some] <;> rfl), by repeat (first | (with_reducible first | exact HB.out | apply below_alloc | apply pw_below_drewN | apply below_drew1 | refine below_set ?_ GE467.out) | exact HB.out)⟩
                            · rw [if_neg c57] at H
                              have c57b0 : (t495 == 0) = false := beq_eq_false_iff_ne.mpr c57
                              have c57b1 : (t495 != 0) = true := bne_iff_ne.mpr c57
                              replace H := Option.bind_eq_some_iff.mp H
                              obtain ⟨t496, A890, H⟩ := H
                              replace H : (some t496) = some r := H
                              have A89 := Aside0.mk A890
                              clear A890
                              obtain rfl := Option.some.inj H
                              obtain ⟨Ao90, co90, eo90⟩ := Kd.R_slice HO_16.out
                              subst eo90
                              have hcz91_0 : wr.cell? ⟨gb467, 0, none⟩ = some (.int .i64 a4_0) := (blk_cell BK467.out 0).trans rfl
                              have hcz91_1 : wr.cell? ⟨gb467, 1, none⟩ = some (.bool a4_1) := (blk_cell BK467.out 1).trans rfl
                              have hfz91_0 := blk_frozen BK467.out 0
                              have hfz91_1 := blk_frozen BK467.out 1
                              go_wp2_with (first | ((with_reducible refine gate_callee (f := 30) rfl ?_); refine goesL_ (some 119) rfl rfl Try.func30 (by kernel_rfl) rfl #[.slice A1 l1.length c1, .int .i64 a2, .int .i64 a3, .agg #[.int .i64 a4_0, .bool a4_1]] rfl (by (try simp only [List.map_toArray, List.map_cons, List.map_nil]); first | done | rfl | (simp only [List.length_drop, List.length_take]; rfl)) ?_; (with_reducible refine (word_PutByte.calls k4 _ _ l1 a2 a3 a4_0 a4_1 t492 t495 _ ?side1 ?side2 A56.out).mono ?_); (case side1 => repeat (first | exact (Kd.C_below HR1.out HB.out) | (with_reducible refine Kd.C_alloc ?_ _) | (with_reducible refine Kd.C_drewN ?_ _) | (with_reducible refine Kd.C_drew ?_))); (case side2 => exact HC1.out); rintro e w92 ⟨v493, rfl, ho0, hb⟩; refine ⟨_, rfl, ?_⟩; have n0_ := Aside0.mk (Kd.R_below (by (with_reducible repeat (first | apply Kd.R_alloc | apply Kd.R_drewN | apply Kd.R_drew)); exact HO_15.out) hb); have n1_ := Aside0.mk (Kd.R_elder' (by (with_reducible repeat (first | apply Kd.R_alloc | apply Kd.R_drewN | apply Kd.R_drew)); exact HO_16.out) (Kd.R_base ho0) hb); have n2_ := Aside0.mk (Kd.R_lower (Kd.R_new' ho0 (Kd.R_lt (by (with_reducible repeat (first | apply Kd.R_alloc | apply Kd.R_drewN | apply Kd.R_drew)); exact HO_16.out))) (below_size (by repeat (first | (with_reducible first | exact HB.out | apply below_alloc | apply pw_below_drewN | apply below_drew1 | refine below_set ?_ GE467.out) | exact HB.out)))); have n3_ := Aside0.mk (blk_below (g := gb467) (o := .cells #[.int .i64 a4_0, .bool a4_1] 37 (0, 0)) (by (with_reducible repeat (first | refine blk_drewN ?_ _ | refine blk_drew ?_ | refine blk_alloc ?_ _)); exact BK467.out) hb); have n4_ := Aside0.mk (below_step (by repeat (first | (with_reducible first | exact HB.out | apply below_alloc | apply pw_below_drewN | apply below_drew1 | refine below_set ?_ GE467.out) | exact HB.out)) hb); clear HO_15; clear HO_16; clear BK467; clear HB; have HO_15 := n0_; have HO_16 := n1_; have HO494 := n2_; have BK467 := n3_; have HB := n4_; clear n0_ n1_ n2_ n3_ n4_; (try clear hb); (try clear hb2); (try clear hk); (try clear hi); (try clear ho0)) | ((with_reducible refine gate_callee (f := 15) rfl ?_); refine goesL_ (some 124) rfl rfl Try.func15 (by kernel_rfl) rfl #[] rfl (by (try simp only [List.map_toArray, List.map_cons, List.map_nil]); first | done | rfl | (simp only [List.length_drop, List.length_take]; rfl)) ?_; (with_reducible refine (bluebelllaw01_awake.calls k4  t496 _ A89.out).mono ?_); rintro e w93 ⟨rfl, hb⟩; refine ⟨_, rfl, ?_⟩; have n0_ := Aside0.mk (Kd.R_below (by (with_reducible repeat (first | apply Kd.R_alloc | apply Kd.R_drewN | apply Kd.R_drew)); exact HO_15.out) hb); have n1_ := Aside0.mk (Kd.R_below (by (with_reducible repeat (first | apply Kd.R_alloc | apply Kd.R_drewN | apply Kd.R_drew)); exact HO_16.out) hb); have n2_ := Aside0.mk (Kd.R_below (by (with_reducible repeat (first | apply Kd.R_alloc | apply Kd.R_drewN | apply Kd.R_drew)); exact HO494.out) hb); have n3_ := Aside0.mk (blk_below (g := gb467) (o := .cells #[.int .i64 a4_0, .bool a4_1] 37 (0, 0)) (by (with_reducible repeat (first | refine blk_drewN ?_ _ | refine blk_drew ?_ | refine blk_alloc ?_ _)); exact BK467.out) hb); have n4_ := Aside0.mk (below_step (by repeat (first | (with_reducible first | exact HB.out | apply below_alloc | apply pw_below_drewN | apply below_drew1 | refine below_set ?_ GE467.out) | exact HB.out)) hb); clear HO_15; clear HO_16; clear HO494; clear BK467; clear HB; have HO_15 := n0_; have HO_16 := n1_; have HO494 := n2_; have BK467 := n3_; have HB := n4_; clear n0_ n1_ n2_ n3_ n4_; (try clear hb); (try clear hb2); (try clear hk); (try clear hi)))
                              go_ret
                              exact ⟨by first | rfl | (simp [errW_none, errW_some] <;> rfl) | (simp [*, errW_none, errW_some] <;> rfl), by repeat (first | (with_reducible first | exact HB.out | apply below_alloc | apply pw_below_drewN | apply below_drew1 | refine below_set ?_ GE467.out) | exact HB.out)⟩
        · rw [if_neg c20] at H
          exact absurd H (by simp)

/-- THE ONE PURE STATEMENT of bluebelllaw01_WordBack: yours. -/
def bluebelllaw01_WordBack.Pure : Prop := ∀ (a0 : ByteArray) (l1 : List Int) (a2 : Int) (a3 : Int) (a4_0 : Int) (a4_1 : Bool), a0.size ≤ 140737488351232 → l1.length ≤ maxLen → l1.length * 8 ≤ 140737488351232 → (∀ x ∈ l1, (Lit.int .i64 x).wf = true) → (Lit.int .i64 a2).wf = true → (Lit.int .i64 a3).wf = true → (Lit.int .i64 a4_0).wf = true → ∃ k, bluebelllaw01_WordBack.f k a0 l1 a2 a3 a4_0 a4_1 = some true
theorem bluebelllaw01_WordBack.walk (P : bluebelllaw01_WordBack.Pure) (a0 : ByteArray) (a1 : Option Addr) (len1 cap1 : Nat) (z1 : List Int) (a2 : Int) (a3 : Int) (a4_0 : Int) (a4_1 : Bool) (w : World) (w0 : a0.size ≤ 140737488351232) (w1 : (a1 = none ∧ len1 = 0 ∧ cap1 = 0 ∧ z1 = []) ∨ ∃ x, a1 = some x ∧ len1 ≤ cap1 ∧ cap1 ≤ maxLen ∧ z1.length = cap1 ∧ (∀ i, i < z1.length → w.cell? (x.add i) = some (.int .i64 (z1.getD i 0))) ∧ ∀ n ∈ z1, (Lit.int .i64 n).wf = true) (y1 : len1 * 8 ≤ 140737488351232) (w2 : (Lit.int .i64 a2).wf = true) (w3 : (Lit.int .i64 a3).wf = true) (w4_0 : (Lit.int .i64 a4_0).wf = true) :
    Calls Try.prog 12 #[.string a0, .slice a1 len1 cap1, .int .i64 a2, .int .i64 a3, .agg #[.int .i64 a4_0, .bool a4_1]] w fun e w' => e = .returned (.bool true) ∧ Below w.heap.size w w' := by
  obtain ⟨l1, rfl, hr1, hm1, hw1, hc1⟩ := ReadsInt.ofRowC w1
  obtain ⟨k, h⟩ := P a0 l1 a2 a3 a4_0 a4_1 w0 hm1 y1 hw1 w2 w3 w4_0
  refine (bluebelllaw01_WordBack.calls k a0 _ _ l1 a2 a3 a4_0 a4_1 true w (Kd.C_of_reads (d := (0 : Int)) (h1 := fun _ => rfl) hr1) hc1 h).mono ?_
  rintro e w' ⟨rfl, hd⟩
  exact ⟨rfl, hd⟩

end Go.Proofs.Ythllfmbdapdogaa.PWord
