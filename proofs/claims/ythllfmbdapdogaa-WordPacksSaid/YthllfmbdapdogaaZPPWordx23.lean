-- Written by a program of this session (wip/p2/p2.py) on the kit's print: the machine's side of the law; nothing in it is trusted, Lean checks it.
import Derived.Test.YthllfmbdapdogaaZPPWordx0
import Derived.Test.YthllfmbdapdogaaZPPWordx1
import Derived.Test.YthllfmbdapdogaaZPPWordx5
import Derived.Test.YthllfmbdapdogaaZPPWordx6
import Derived.Test.YthllfmbdapdogaaZPPWordx7
import Derived.Test.YthllfmbdapdogaaZPPWordx8
import Derived.Test.YthllfmbdapdogaaZPPWordx18
import Derived.Test.YthllfmbdapdogaaZPPWordx19
import Derived.Test.YthllfmbdapdogaaZPPWordx20
import Derived.Test.YthllfmbdapdogaaZPPWordx21
namespace Go.Proofs.Ythllfmbdapdogaa.PWord
open Go.RowKit Go.Proofs.YthllfmbdapdogaaW.PrintWords Go.Proofs.YthllfmbdapdogaaW.PrintLast Go.Proofs.YthllfmbdapdogaaW.PrintMore
attribute [local go_sem] max2_int min2_int max_two min_two max_three min_three max_four min_four   -- for this text's walks alone
set_option linter.unusedVariables false
set_option linter.unusedSimpArgs false

/-- '[]byte(s)'. -/
def conv_bytes.f (s : ByteArray) : Option (List Int) := if s.size ≤ 9223372036854775807 then some (bytesOf s) else none
theorem conv_event {P : Program} {a : Act} {ops : Array Oper} {Q : Exit → Act → World → Prop} {rest : List Oper} {o : Oper} {W : World} (hgd : o.guard = none) {N : Tmp} (hd : o.dst = some N) (src dst e : TypeId) (x : Operand) (ho : o.op = .convert src dst x) (s : ByteArray) (hx : a.eval x = .string s) {u : TypeDesc}
    (hs : P.underlying src = some u) (hdd : P.underlying dst = some (.slice e)) (he : P.underlying e = some (.int .u8)) (t : List Int) (ht : conv_bytes.f s = some t)
    (h : ∀ A c w1, Kd.C (Kd.int .u8) w1 A t.length t → t.length ≤ c → Below W.heap.size W w1 → wpList P ops Q rest (a.put o.dst (.slice A t.length c)) w1) : wpList P ops Q (o :: rest) a W := by
  unfold conv_bytes.f at ht
  split at ht
  case isFalse => simp at ht
  case isTrue hz =>
    obtain rfl := Option.some.inj ht
    have hr := print_bytes (P := P) src dst e hs hdd he s W
    have hl := bytesOf_length s
    refine Kd.event_run hgd (v := .slice (some ⟨W.heap.size, 0, none⟩) s.size (grownCap W s.size 0 e)) (w1 := Lib.bytesWorld W e s) ?_ ?_
    · simp [execOp, ho, hx, hr]
    · have := h (some ⟨W.heap.size, 0, none⟩) (grownCap W s.size 0 e) (Lib.bytesWorld W e s) (by rw [hl]; exact Kd.C_of_reads (d := (0 : Int)) (h1 := fun _ => rfl) (bytes_reads W e s hz)) (by rw [hl]; exact grownCap_ge W s.size 0 e) (bytes_below (Below.refl _ _) (Nat.le_refl _) e s)
      rw [hl] at this
      exact this

/-! ### bluebelllaw01_WordPacks: function 11 -/
mutual
def bluebelllaw01_WordPacks.j0 : Nat → ByteArray → List Int → Bool → Int → Bool → Option (Bool)
  | 0, _, _, _, _, _ => none
  | k + 1, x0, x1, x26, x236000, x236001 => if x26 = true then (some true) else ((word_Pack.f k x0 x236000 x236001).bind fun bt236 => ((bluebellref01_Pack.f k x0 x236000 x236001).bind fun bt240 => (if bt236.2 = bt240.2 then ((bluebellref00_EqInts.f k bt236.1 bt240.1).bind fun t244 => (bluebelllaw01_WordPacks.j1 k x0 x1 (!t244) x236000 x236001)) else (bluebelllaw01_WordPacks.j1 k x0 x1 true x236000 x236001))))
def bluebelllaw01_WordPacks.j1 : Nat → ByteArray → List Int → Bool → Int → Bool → Option (Bool)
  | 0, _, _, _, _, _ => none
  | k + 1, x0, x1, x47, x236000, x236001 => if x47 = true then (some false) else ((word_Unpack.f k x1 x236000 x236001).bind fun bt245 => ((bluebellref01_Unpack.f k x1 x236000 x236001).bind fun bt247 => ((word_Bytes.f k x1 x236000 x236001).bind fun bt249 => ((bluebellref01_Bytes.f k x1 x236000 x236001).bind fun bt253 => (if bt245.1.toList = bt247.1.toList then (if bt245.2 = bt247.2 then (if bt249.2 = bt253.2 then ((bluebellref00_EqBytes.f k bt249.1 bt253.1).bind fun t257 => (bluebelllaw01_WordPacks.j2 k x0 (!t257) x236000 x236001)) else (bluebelllaw01_WordPacks.j2 k x0 true x236000 x236001)) else (bluebelllaw01_WordPacks.j2 k x0 true x236000 x236001)) else (bluebelllaw01_WordPacks.j2 k x0 true x236000 x236001))))))
def bluebelllaw01_WordPacks.j2 : Nat → ByteArray → Bool → Int → Bool → Option (Bool)
  | 0, _, _, _, _ => none
  | k + 1, x0, x90, x236000, x236001 => if x90 = true then (some false) else ((conv_bytes.f x0).bind fun t258 => ((word_Words.f k t258 x236000 x236001).bind fun bt261 => ((conv_bytes.f x0).bind fun t265 => ((bluebellref01_Words.f k t265 x236000 x236001).bind fun bt268 => (if bt261.2 = bt268.2 then ((bluebellref00_EqInts.f k bt261.1 bt268.1).bind fun t272 => (if t272 = true then ((bluebelllaw01_awake.f k).bind fun t273 => (some t273)) else (some false))) else (some false))))))
end
def bluebelllaw01_WordPacks.f (k : Nat) (a0 : ByteArray) (l1 : List Int) (a2_0 : Int) (a2_1 : Bool) : Option (Bool) := if (a0.size : Int) > 600 then (bluebelllaw01_WordPacks.j0 k a0 l1 true a2_0 a2_1) else (bluebelllaw01_WordPacks.j0 k a0 l1 (decide ((l1.length : Int) > 300)) a2_0 a2_1)
theorem bluebelllaw01_WordPacks.mono_l : ∀ k, (∀ y0 y1 y2 y3 y4, LeO (bluebelllaw01_WordPacks.j0 k y0 y1 y2 y3 y4) (bluebelllaw01_WordPacks.j0 (k + 1) y0 y1 y2 y3 y4)) ∧ (∀ y0 y1 y2 y3 y4, LeO (bluebelllaw01_WordPacks.j1 k y0 y1 y2 y3 y4) (bluebelllaw01_WordPacks.j1 (k + 1) y0 y1 y2 y3 y4)) ∧ (∀ y0 y1 y2 y3, LeO (bluebelllaw01_WordPacks.j2 k y0 y1 y2 y3) (bluebelllaw01_WordPacks.j2 (k + 1) y0 y1 y2 y3))
  | 0 => ⟨fun _ _ _ _ _ r h => by simp [bluebelllaw01_WordPacks.j0] at h, fun _ _ _ _ _ r h => by simp [bluebelllaw01_WordPacks.j1] at h, fun _ _ _ _ r h => by simp [bluebelllaw01_WordPacks.j2] at h⟩
  | k + 1 => by
    obtain ⟨ih0, ih1, ih2⟩ := bluebelllaw01_WordPacks.mono_l k
    refine ⟨?_, ?_, ?_⟩
    · intro y0 y1 y2 y3 y4
      unfold bluebelllaw01_WordPacks.j0
      repeat' first
      | (with_reducible exact ih0 _ _ _ _ _)
      | (with_reducible exact ih1 _ _ _ _ _)
      | (with_reducible exact ih2 _ _ _ _)
      | (with_reducible exact bluebelllaw01_awake.mono _)
      | (with_reducible exact bluebellref00_EqBytes.mono _ _ _)
      | (with_reducible exact bluebellref00_EqInts.mono _ _ _)
      | (with_reducible exact bluebellref01_Bytes.mono _ _ _ _)
      | (with_reducible exact bluebellref01_Pack.mono _ _ _ _)
      | (with_reducible exact bluebellref01_Unpack.mono _ _ _ _)
      | (with_reducible exact bluebellref01_Words.mono _ _ _ _)
      | (with_reducible exact word_Bytes.mono _ _ _ _)
      | (with_reducible exact word_Pack.mono _ _ _ _)
      | (with_reducible exact word_Unpack.mono _ _ _ _)
      | (with_reducible exact word_Words.mono _ _ _ _)
      | (with_reducible exact LeO.refl _)
      | (with_reducible exact LeO.none _)
      | (with_reducible refine LeO.ite ?_ ?_)
      | (with_reducible refine LeO.bind ?_ (fun _ => ?_))
      | exact ih0 _ _ _ _ _
      | exact ih1 _ _ _ _ _
      | exact ih2 _ _ _ _
      | exact bluebelllaw01_awake.mono _
      | exact bluebellref00_EqBytes.mono _ _ _
      | exact bluebellref00_EqInts.mono _ _ _
      | exact bluebellref01_Bytes.mono _ _ _ _
      | exact bluebellref01_Pack.mono _ _ _ _
      | exact bluebellref01_Unpack.mono _ _ _ _
      | exact bluebellref01_Words.mono _ _ _ _
      | exact word_Bytes.mono _ _ _ _
      | exact word_Pack.mono _ _ _ _
      | exact word_Unpack.mono _ _ _ _
      | exact word_Words.mono _ _ _ _
      | exact LeO.none _
      | refine LeO.ite ?_ ?_
      | refine LeO.bind ?_ (fun _ => ?_)
    · intro y0 y1 y2 y3 y4
      unfold bluebelllaw01_WordPacks.j1
      repeat' first
      | (with_reducible exact ih0 _ _ _ _ _)
      | (with_reducible exact ih1 _ _ _ _ _)
      | (with_reducible exact ih2 _ _ _ _)
      | (with_reducible exact bluebelllaw01_awake.mono _)
      | (with_reducible exact bluebellref00_EqBytes.mono _ _ _)
      | (with_reducible exact bluebellref00_EqInts.mono _ _ _)
      | (with_reducible exact bluebellref01_Bytes.mono _ _ _ _)
      | (with_reducible exact bluebellref01_Pack.mono _ _ _ _)
      | (with_reducible exact bluebellref01_Unpack.mono _ _ _ _)
      | (with_reducible exact bluebellref01_Words.mono _ _ _ _)
      | (with_reducible exact word_Bytes.mono _ _ _ _)
      | (with_reducible exact word_Pack.mono _ _ _ _)
      | (with_reducible exact word_Unpack.mono _ _ _ _)
      | (with_reducible exact word_Words.mono _ _ _ _)
      | (with_reducible exact LeO.refl _)
      | (with_reducible exact LeO.none _)
      | (with_reducible refine LeO.ite ?_ ?_)
      | (with_reducible refine LeO.bind ?_ (fun _ => ?_))
      | exact ih0 _ _ _ _ _
      | exact ih1 _ _ _ _ _
      | exact ih2 _ _ _ _
      | exact bluebelllaw01_awake.mono _
      | exact bluebellref00_EqBytes.mono _ _ _
      | exact bluebellref00_EqInts.mono _ _ _
      | exact bluebellref01_Bytes.mono _ _ _ _
      | exact bluebellref01_Pack.mono _ _ _ _
      | exact bluebellref01_Unpack.mono _ _ _ _
      | exact bluebellref01_Words.mono _ _ _ _
      | exact word_Bytes.mono _ _ _ _
      | exact word_Pack.mono _ _ _ _
      | exact word_Unpack.mono _ _ _ _
      | exact word_Words.mono _ _ _ _
      | exact LeO.none _
      | refine LeO.ite ?_ ?_
      | refine LeO.bind ?_ (fun _ => ?_)
    · intro y0 y1 y2 y3
      unfold bluebelllaw01_WordPacks.j2
      repeat' first
      | (with_reducible exact ih0 _ _ _ _ _)
      | (with_reducible exact ih1 _ _ _ _ _)
      | (with_reducible exact ih2 _ _ _ _)
      | (with_reducible exact bluebelllaw01_awake.mono _)
      | (with_reducible exact bluebellref00_EqBytes.mono _ _ _)
      | (with_reducible exact bluebellref00_EqInts.mono _ _ _)
      | (with_reducible exact bluebellref01_Bytes.mono _ _ _ _)
      | (with_reducible exact bluebellref01_Pack.mono _ _ _ _)
      | (with_reducible exact bluebellref01_Unpack.mono _ _ _ _)
      | (with_reducible exact bluebellref01_Words.mono _ _ _ _)
      | (with_reducible exact word_Bytes.mono _ _ _ _)
      | (with_reducible exact word_Pack.mono _ _ _ _)
      | (with_reducible exact word_Unpack.mono _ _ _ _)
      | (with_reducible exact word_Words.mono _ _ _ _)
      | (with_reducible exact LeO.refl _)
      | (with_reducible exact LeO.none _)
      | (with_reducible refine LeO.ite ?_ ?_)
      | (with_reducible refine LeO.bind ?_ (fun _ => ?_))
      | exact ih0 _ _ _ _ _
      | exact ih1 _ _ _ _ _
      | exact ih2 _ _ _ _
      | exact bluebelllaw01_awake.mono _
      | exact bluebellref00_EqBytes.mono _ _ _
      | exact bluebellref00_EqInts.mono _ _ _
      | exact bluebellref01_Bytes.mono _ _ _ _
      | exact bluebellref01_Pack.mono _ _ _ _
      | exact bluebellref01_Unpack.mono _ _ _ _
      | exact bluebellref01_Words.mono _ _ _ _
      | exact word_Bytes.mono _ _ _ _
      | exact word_Pack.mono _ _ _ _
      | exact word_Unpack.mono _ _ _ _
      | exact word_Words.mono _ _ _ _
      | exact LeO.none _
      | refine LeO.ite ?_ ?_
      | refine LeO.bind ?_ (fun _ => ?_)
theorem bluebelllaw01_WordPacks.mono : ∀ a0 a1 a2 a3 k, LeO (bluebelllaw01_WordPacks.f k a0 a1 a2 a3) (bluebelllaw01_WordPacks.f (k + 1) a0 a1 a2 a3) := by
  intro a0 a1 a2 a3 k
  obtain ⟨ih0, ih1, ih2⟩ := bluebelllaw01_WordPacks.mono_l k
  unfold bluebelllaw01_WordPacks.f
  repeat' first
      | (with_reducible exact ih0 _ _ _ _ _)
      | (with_reducible exact ih1 _ _ _ _ _)
      | (with_reducible exact ih2 _ _ _ _)
      | (with_reducible exact bluebelllaw01_awake.mono _)
      | (with_reducible exact bluebellref00_EqBytes.mono _ _ _)
      | (with_reducible exact bluebellref00_EqInts.mono _ _ _)
      | (with_reducible exact bluebellref01_Bytes.mono _ _ _ _)
      | (with_reducible exact bluebellref01_Pack.mono _ _ _ _)
      | (with_reducible exact bluebellref01_Unpack.mono _ _ _ _)
      | (with_reducible exact bluebellref01_Words.mono _ _ _ _)
      | (with_reducible exact word_Bytes.mono _ _ _ _)
      | (with_reducible exact word_Pack.mono _ _ _ _)
      | (with_reducible exact word_Unpack.mono _ _ _ _)
      | (with_reducible exact word_Words.mono _ _ _ _)
      | (with_reducible exact LeO.refl _)
      | (with_reducible exact LeO.none _)
      | (with_reducible refine LeO.ite ?_ ?_)
      | (with_reducible refine LeO.bind ?_ (fun _ => ?_))
      | exact ih0 _ _ _ _ _
      | exact ih1 _ _ _ _ _
      | exact ih2 _ _ _ _
      | exact bluebelllaw01_awake.mono _
      | exact bluebellref00_EqBytes.mono _ _ _
      | exact bluebellref00_EqInts.mono _ _ _
      | exact bluebellref01_Bytes.mono _ _ _ _
      | exact bluebellref01_Pack.mono _ _ _ _
      | exact bluebellref01_Unpack.mono _ _ _ _
      | exact bluebellref01_Words.mono _ _ _ _
      | exact word_Bytes.mono _ _ _ _
      | exact word_Pack.mono _ _ _ _
      | exact word_Unpack.mono _ _ _ _
      | exact word_Words.mono _ _ _ _
      | exact LeO.none _
      | refine LeO.ite ?_ ?_
      | refine LeO.bind ?_ (fun _ => ?_)
set_option maxHeartbeats 8000000 in
set_option maxRecDepth 100000 in
theorem bluebelllaw01_WordPacks.calls (k : Nat) (a0 : ByteArray) (A1 : Option Addr) (c1 : Nat) (l1 : List Int) (a2_0 : Int) (a2_1 : Bool) (r : Bool) (w : World) (hr1 : Kd.C (Kd.int .i64) w A1 l1.length l1) (hc1 : l1.length ≤ c1) (h : bluebelllaw01_WordPacks.f k a0 l1 a2_0 a2_1 = some r) :
    Calls Try.prog 11 #[.string a0, .slice A1 l1.length c1, .agg #[.int .i64 a2_0, .bool a2_1]] w fun e w' => e = .returned (.bool r) ∧ Below w.heap.size w w' := by
  have hu37 := Try.underlying37
  have HR1 := Aside0.mk hr1
  have HC1 := Aside0.mk hc1
  clear hr1 hc1
  have HB := Aside0.mk (Below.refl w.heap.size w)
  have H : (if (a0.size : Int) > 600 then (bluebelllaw01_WordPacks.j0 k a0 l1 true a2_0 a2_1) else (bluebelllaw01_WordPacks.j0 k a0 l1 (decide ((l1.length : Int) > 300)) a2_0 a2_1)) = some r := h
  clear h
  have HC4 := Aside0.mk H
  clear H
  go_enter Try.func11, Try.ntmps11
  go_upto_region 1 with (first | ((with_reducible refine gate_dst (N := 5) rfl ?_); (try (refine gate_guard (by rfl) ?_; dsimp only)); refine box_event ?hg (N := 5) ?hd (cs := #[.int .i64 a2_0, .bool a2_1]) (t := 37) ?hr ?_; (case hd => rfl); (case hg => rfl); (case hr => first | (go_simp; done) | (go_simp; rfl)); intro gb235 hg w5 hbox hb; have n0_ := Aside0.mk (below_step (by repeat (first | (with_reducible first | exact HB.out | apply below_alloc | apply pw_below_drewN | apply below_drew1) | exact HB.out)) hb); have n1_ := Aside0.mk (hbox); have n2_ := Aside0.mk ((by rw [hg]; exact (below_size (by repeat (first | (with_reducible first | exact HB.out | apply below_alloc | apply pw_below_drewN | apply below_drew1) | exact HB.out))) : w.heap.size ≤ gb235)); have n3_ := Aside0.mk ((by rw [hg]; exact (below_size (by repeat (first | (with_reducible first | exact HB.out | apply below_alloc | apply pw_below_drewN | apply below_drew1) | exact HB.out))) : w.heap.size ≤ gb235)); clear HB; have HB := n0_; have BK235 := n1_; have GW235 := n2_; have GE235 := n3_; clear n0_ n1_ n2_ n3_; clear hb hbox hg))
  (try simp only [Act.put, List.setIfInBounds_toArray, List.set_cons_zero, List.set_cons_succ])
  go_cut [26] (fun v26 wc => ∃ (kq : Nat) (x26_3 : Bool), v26 = .bool x26_3 ∧ Aside0 (bluebelllaw01_WordPacks.j0 kq a0 l1 x26_3 a2_0 a2_1 = some r) ∧ Aside0 (kq ≤ k) ∧ Aside0 (wc.heap[gb235]? = some (.cells #[.int .i64 a2_0, .bool a2_1] 37 (0, 0))) ∧ Aside0 (Below w.heap.size w wc))
  case first =>
    have H := HC4.out
    clear HC4
    by_cases c6 : (a0.size : Int) > 600
    · rw [if_pos c6] at H
      have c6b0 : decide (600 < (a0.size : Int)) = true := decide_eq_true c6
      have c6b1 : decide (600 < a0.size) = true := decide_eq_true (by omega)
      clear c6
      (first | rw [c6b0] | (simp only [i64_w, i32_w]; rw [c6b0]) | skip)
      have H' := Aside0.mk H
      clear H
      go_wp2
      go_meet
      case rel => exact ⟨_, (true), (by first | rfl | (simp; done) | (simp [*]; done)), H', ⟨by first | omega | exact Nat.le_refl _⟩, ⟨by (with_reducible repeat (first | refine blk_drewN ?_ _ | refine blk_drew ?_ | refine blk_alloc ?_ _)); exact BK235.out⟩, ⟨by repeat (first | (with_reducible first | exact HB.out | apply below_alloc | apply pw_below_drewN | apply below_drew1 | refine below_set ?_ GE235.out) | exact HB.out)⟩⟩
    · rw [if_neg c6] at H
      have c6b0 : decide (600 < (a0.size : Int)) = false := decide_eq_false c6
      have c6b1 : decide (600 < a0.size) = false := decide_eq_false (by omega)
      clear c6
      (first | rw [c6b0] | (simp only [i64_w, i32_w]; rw [c6b0]) | skip)
      have H' := Aside0.mk H
      clear H
      go_wp2
      go_meet
      case rel => exact ⟨_, (decide ((l1.length : Int) > 300)), (by first | rfl | (simp; done) | (simp [*]; done)), H', ⟨by first | omega | exact Nat.le_refl _⟩, ⟨by (with_reducible repeat (first | refine blk_drewN ?_ _ | refine blk_drew ?_ | refine blk_alloc ?_ _)); exact BK235.out⟩, ⟨by repeat (first | (with_reducible first | exact HB.out | apply below_alloc | apply pw_below_drewN | apply below_drew1 | refine below_set ?_ GE235.out) | exact HB.out)⟩⟩
  case rest =>
    clear HC4
    try clear c1
    try clear p2
    try clear c6
    try clear c6b0
    try clear c6b1
    obtain ⟨kq, x26_3, rfl, HA, HJ3, BK235, HB⟩ := hcut
    cases kq with
    | zero => exact absurd HA.out (by simp [bluebelllaw01_WordPacks.j0])
    | succ kj3 =>
      have H := HA.out
      clear HA
      simp only [bluebelllaw01_WordPacks.j0] at H
      by_cases c7 : x26_3 = true
      · subst c7
        have H1 : (some true) = some r := by rw [if_pos rfl] at H; exact H
        clear H
        have H := H1
        clear H1
        obtain rfl := Option.some.inj H
        go_wp2
        go_ret
        exact ⟨by first | rfl | (simp [errW_none, errW_some] <;> rfl) | (simp [*, errW_none, errW_some] <;> rfl), by repeat (first | (with_reducible first | exact HB.out | apply below_alloc | apply pw_below_drewN | apply below_drew1 | refine below_set ?_ GE235.out) | exact HB.out)⟩
      · replace c7 := Bool.eq_false_iff.mpr c7
        subst c7
        have H1 : ((word_Pack.f kj3 a0 a2_0 a2_1).bind fun bt236 => ((bluebellref01_Pack.f kj3 a0 a2_0 a2_1).bind fun bt240 => (if bt236.2 = bt240.2 then ((bluebellref00_EqInts.f kj3 bt236.1 bt240.1).bind fun t244 => (bluebelllaw01_WordPacks.j1 kj3 a0 l1 (!t244) a2_0 a2_1)) else (bluebelllaw01_WordPacks.j1 kj3 a0 l1 true a2_0 a2_1)))) = some r := by rw [if_neg (show ¬ (false = true) by decide)] at H; exact H
        clear H
        have H := H1
        clear H1
        replace H := Option.bind_eq_some_iff.mp H
        obtain ⟨⟨t236, t239⟩, A80, H⟩ := H
        replace H : ((bluebellref01_Pack.f kj3 a0 a2_0 a2_1).bind fun bt240 => (if t239 = bt240.2 then ((bluebellref00_EqInts.f kj3 t236 bt240.1).bind fun t244 => (bluebelllaw01_WordPacks.j1 kj3 a0 l1 (!t244) a2_0 a2_1)) else (bluebelllaw01_WordPacks.j1 kj3 a0 l1 true a2_0 a2_1))) = some r := H
        have A8 := Aside0.mk A80
        clear A80
        replace H := Option.bind_eq_some_iff.mp H
        obtain ⟨⟨t240, t243⟩, A90, H⟩ := H
        replace H : (if t239 = t243 then ((bluebellref00_EqInts.f kj3 t236 t240).bind fun t244 => (bluebelllaw01_WordPacks.j1 kj3 a0 l1 (!t244) a2_0 a2_1)) else (bluebelllaw01_WordPacks.j1 kj3 a0 l1 true a2_0 a2_1)) = some r := H
        have A9 := Aside0.mk A90
        clear A90
        have HC10 := Aside0.mk H
        clear H
        have hcz11_0 : wc.cell? ⟨gb235, 0, none⟩ = some (.int .i64 a2_0) := (blk_cell BK235.out 0).trans rfl
        have hcz11_1 : wc.cell? ⟨gb235, 1, none⟩ = some (.bool a2_1) := (blk_cell BK235.out 1).trans rfl
        have hfz11_0 := blk_frozen BK235.out 0
        have hfz11_1 := blk_frozen BK235.out 1
        go_upto_region 5 with (first | ((with_reducible refine gate_callee (f := 33) rfl ?_); refine goesL_ (some 30) rfl rfl Try.func33 (by kernel_rfl) rfl #[.string a0, .agg #[.int .i64 a2_0, .bool a2_1]] rfl (by (try simp only [List.map_toArray, List.map_cons, List.map_nil]); first | done | rfl | (simp only [List.length_drop, List.length_take]; rfl)) ?_; (with_reducible refine (word_Pack.calls kj3 a0 a2_0 a2_1 t236 t239 _ A8.out).mono ?_); rintro e w12 ⟨v237, rfl, ho0, hb⟩; refine ⟨_, rfl, ?_⟩; have n0_ := Aside0.mk (Kd.R_lower ho0 (below_size (by repeat (first | (with_reducible first | exact HB.out | apply below_alloc | apply pw_below_drewN | apply below_drew1 | refine below_set ?_ GE235.out) | exact HB.out)))); have n1_ := Aside0.mk (blk_below (g := gb235) (o := .cells #[.int .i64 a2_0, .bool a2_1] 37 (0, 0)) (by (with_reducible repeat (first | refine blk_drewN ?_ _ | refine blk_drew ?_ | refine blk_alloc ?_ _)); exact BK235.out) hb); have n2_ := Aside0.mk (below_step (by repeat (first | (with_reducible first | exact HB.out | apply below_alloc | apply pw_below_drewN | apply below_drew1 | refine below_set ?_ GE235.out) | exact HB.out)) hb); clear BK235; clear HB; have HO238 := n0_; have BK235 := n1_; have HB := n2_; clear n0_ n1_ n2_; (try clear hb); (try clear hb2); (try clear hk); (try clear hi); (try clear ho0); have hcz13_0 : w12.cell? ⟨gb235, 0, none⟩ = some (.int .i64 a2_0) := (blk_cell BK235.out 0).trans rfl; have hcz13_1 : w12.cell? ⟨gb235, 1, none⟩ = some (.bool a2_1) := (blk_cell BK235.out 1).trans rfl; have hfz13_0 := blk_frozen BK235.out 0; have hfz13_1 := blk_frozen BK235.out 1) | ((with_reducible refine gate_callee (f := 34) rfl ?_); refine goesL_ (some 36) rfl rfl Try.func34 (by kernel_rfl) rfl #[.string a0, .agg #[.int .i64 a2_0, .bool a2_1]] rfl (by (try simp only [List.map_toArray, List.map_cons, List.map_nil]); first | done | rfl | (simp only [List.length_drop, List.length_take]; rfl)) ?_; (with_reducible refine (bluebellref01_Pack.calls kj3 a0 a2_0 a2_1 t240 t243 _ A9.out).mono ?_); rintro e w14 ⟨v241, rfl, ho0, hb⟩; refine ⟨_, rfl, ?_⟩; have n0_ := Aside0.mk (Kd.R_elder' (by (with_reducible repeat (first | apply Kd.R_alloc | apply Kd.R_drewN | apply Kd.R_drew)); exact HO238.out) (Kd.R_base ho0) hb); have n1_ := Aside0.mk (Kd.R_lower (Kd.R_new' ho0 (Kd.R_lt (by (with_reducible repeat (first | apply Kd.R_alloc | apply Kd.R_drewN | apply Kd.R_drew)); exact HO238.out))) (below_size (by repeat (first | (with_reducible first | exact HB.out | apply below_alloc | apply pw_below_drewN | apply below_drew1 | refine below_set ?_ GE235.out) | exact HB.out)))); have n2_ := Aside0.mk (blk_below (g := gb235) (o := .cells #[.int .i64 a2_0, .bool a2_1] 37 (0, 0)) (by (with_reducible repeat (first | refine blk_drewN ?_ _ | refine blk_drew ?_ | refine blk_alloc ?_ _)); exact BK235.out) hb); have n3_ := Aside0.mk (below_step (by repeat (first | (with_reducible first | exact HB.out | apply below_alloc | apply pw_below_drewN | apply below_drew1 | refine below_set ?_ GE235.out) | exact HB.out)) hb); clear HO238; clear BK235; clear HB; have HO238 := n0_; have HO242 := n1_; have BK235 := n2_; have HB := n3_; clear n0_ n1_ n2_ n3_; (try clear hb); (try clear hb2); (try clear hk); (try clear hi); (try clear ho0)))
        (try simp only [Act.put, List.setIfInBounds_toArray, List.set_cons_zero, List.set_cons_succ])
        go_cut [47] (fun v47 wc => ∃ (kq : Nat) (x47_9 : Bool), v47 = .bool x47_9 ∧ Aside0 (bluebelllaw01_WordPacks.j1 kq a0 l1 x47_9 a2_0 a2_1 = some r) ∧ Aside0 (kq ≤ kj3) ∧ Aside0 (wc.heap[gb235]? = some (.cells #[.int .i64 a2_0, .bool a2_1] 37 (0, 0))) ∧ Aside0 (Below w.heap.size w wc))
        case first =>
          have H := HC10.out
          clear HC10
          by_cases c15 : t239 = t243
          · rw [if_pos c15] at H
            have c15b0 : (t239 == t243) = true := beq_iff_eq.mpr c15
            have c15b1 : (t239 != t243) = false := bne_eq_false_iff_eq.mpr c15
            clear c15
            (first | rw [c15b0] | (simp only [i64_w, i32_w]; rw [c15b0]) | skip)
            replace H := Option.bind_eq_some_iff.mp H
            obtain ⟨t244, A160, H⟩ := H
            replace H : (bluebelllaw01_WordPacks.j1 kj3 a0 l1 (!t244) a2_0 a2_1) = some r := H
            have A16 := Aside0.mk A160
            clear A160
            have H' := Aside0.mk H
            clear H
            obtain ⟨Ao17, co17, eo17⟩ := Kd.R_slice HO238.out
            subst eo17
            obtain ⟨Ao18, co18, eo18⟩ := Kd.R_slice HO242.out
            subst eo18
            go_wp2_with (first | (go_at_call 32; (with_reducible refine (bluebellref00_EqInts.calls kj3 _ _ t236 _ _ t240 t244 _ ?side1 ?side2 ?side3 ?side4 A16.out).mono ?_); (case side1 => repeat (first | exact (Kd.R_reads' HO238.out).2.2 | (with_reducible refine Kd.C_alloc ?_ _) | (with_reducible refine Kd.C_drewN ?_ _) | (with_reducible refine Kd.C_drew ?_))); (case side2 => exact (Kd.R_reads' HO238.out).2.1); (case side3 => repeat (first | exact (Kd.R_reads' HO242.out).2.2 | (with_reducible refine Kd.C_alloc ?_ _) | (with_reducible refine Kd.C_drewN ?_ _) | (with_reducible refine Kd.C_drew ?_))); (case side4 => exact (Kd.R_reads' HO242.out).2.1); rintro e w' ⟨rfl, ⟨nd, rfl⟩⟩))
            go_meet
            case rel => exact ⟨_, (!t244), (by first | rfl | (simp; done) | (simp [*]; done)), H', ⟨by have := HJ3.out; first | omega | exact Nat.le_refl _⟩, ⟨by (with_reducible repeat (first | refine blk_drewN ?_ _ | refine blk_drew ?_ | refine blk_alloc ?_ _)); exact BK235.out⟩, ⟨by repeat (first | (with_reducible first | exact HB.out | apply below_alloc | apply pw_below_drewN | apply below_drew1 | refine below_set ?_ GE235.out) | exact HB.out)⟩⟩
          · rw [if_neg c15] at H
            have c15b0 : (t239 == t243) = false := beq_eq_false_iff_ne.mpr c15
            have c15b1 : (t239 != t243) = true := bne_iff_ne.mpr c15
            (first | rw [c15b0] | (simp only [i64_w, i32_w]; rw [c15b0]) | skip)
            have H' := Aside0.mk H
            clear H
            go_wp2
            go_meet
            case rel => exact ⟨_, (true), (by first | rfl | (simp; done) | (simp [*]; done)), H', ⟨by have := HJ3.out; first | omega | exact Nat.le_refl _⟩, ⟨by (with_reducible repeat (first | refine blk_drewN ?_ _ | refine blk_drew ?_ | refine blk_alloc ?_ _)); exact BK235.out⟩, ⟨by repeat (first | (with_reducible first | exact HB.out | apply below_alloc | apply pw_below_drewN | apply below_drew1 | refine below_set ?_ GE235.out) | exact HB.out)⟩⟩
        case rest =>
          clear HC10
          try clear c1
          try clear p2
          try clear c3
          try clear c6
          try clear c6b0
          try clear c6b1
          try clear c7
          try clear c11
          try clear c15
          try clear c15b0
          try clear c15b1
          try clear hcz11_0
          try clear hcz11_1
          try clear hcz13_0
          try clear hcz13_1
          try clear hfz11_0
          try clear hfz11_1
          try clear hfz13_0
          try clear hfz13_1
          try clear p2
          obtain ⟨kq, x47_9, rfl, HA, HJ9, BK235, HB⟩ := hcut
          cases kq with
          | zero => exact absurd HA.out (by simp [bluebelllaw01_WordPacks.j1])
          | succ kj9 =>
            have H := HA.out
            clear HA
            simp only [bluebelllaw01_WordPacks.j1] at H
            by_cases c19 : x47_9 = true
            · subst c19
              have H1 : (some false) = some r := by rw [if_pos rfl] at H; exact H
              clear H
              have H := H1
              clear H1
              obtain rfl := Option.some.inj H
              go_wp2
              go_ret
              exact ⟨by first | rfl | (simp [errW_none, errW_some] <;> rfl) | (simp [*, errW_none, errW_some] <;> rfl), by repeat (first | (with_reducible first | exact HB.out | apply below_alloc | apply pw_below_drewN | apply below_drew1 | refine below_set ?_ GE235.out) | exact HB.out)⟩
            · replace c19 := Bool.eq_false_iff.mpr c19
              subst c19
              have H1 : ((word_Unpack.f kj9 l1 a2_0 a2_1).bind fun bt245 => ((bluebellref01_Unpack.f kj9 l1 a2_0 a2_1).bind fun bt247 => ((word_Bytes.f kj9 l1 a2_0 a2_1).bind fun bt249 => ((bluebellref01_Bytes.f kj9 l1 a2_0 a2_1).bind fun bt253 => (if bt245.1.toList = bt247.1.toList then (if bt245.2 = bt247.2 then (if bt249.2 = bt253.2 then ((bluebellref00_EqBytes.f kj9 bt249.1 bt253.1).bind fun t257 => (bluebelllaw01_WordPacks.j2 kj9 a0 (!t257) a2_0 a2_1)) else (bluebelllaw01_WordPacks.j2 kj9 a0 true a2_0 a2_1)) else (bluebelllaw01_WordPacks.j2 kj9 a0 true a2_0 a2_1)) else (bluebelllaw01_WordPacks.j2 kj9 a0 true a2_0 a2_1)))))) = some r := by rw [if_neg (show ¬ (false = true) by decide)] at H; exact H
              clear H
              have H := H1
              clear H1
              replace H := Option.bind_eq_some_iff.mp H
              obtain ⟨⟨t245, t246⟩, A200, H⟩ := H
              replace H : ((bluebellref01_Unpack.f kj9 l1 a2_0 a2_1).bind fun bt247 => ((word_Bytes.f kj9 l1 a2_0 a2_1).bind fun bt249 => ((bluebellref01_Bytes.f kj9 l1 a2_0 a2_1).bind fun bt253 => (if t245.toList = bt247.1.toList then (if t246 = bt247.2 then (if bt249.2 = bt253.2 then ((bluebellref00_EqBytes.f kj9 bt249.1 bt253.1).bind fun t257 => (bluebelllaw01_WordPacks.j2 kj9 a0 (!t257) a2_0 a2_1)) else (bluebelllaw01_WordPacks.j2 kj9 a0 true a2_0 a2_1)) else (bluebelllaw01_WordPacks.j2 kj9 a0 true a2_0 a2_1)) else (bluebelllaw01_WordPacks.j2 kj9 a0 true a2_0 a2_1))))) = some r := H
              have A20 := Aside0.mk A200
              clear A200
              replace H := Option.bind_eq_some_iff.mp H
              obtain ⟨⟨t247, t248⟩, A210, H⟩ := H
              replace H : ((word_Bytes.f kj9 l1 a2_0 a2_1).bind fun bt249 => ((bluebellref01_Bytes.f kj9 l1 a2_0 a2_1).bind fun bt253 => (if t245.toList = t247.toList then (if t246 = t248 then (if bt249.2 = bt253.2 then ((bluebellref00_EqBytes.f kj9 bt249.1 bt253.1).bind fun t257 => (bluebelllaw01_WordPacks.j2 kj9 a0 (!t257) a2_0 a2_1)) else (bluebelllaw01_WordPacks.j2 kj9 a0 true a2_0 a2_1)) else (bluebelllaw01_WordPacks.j2 kj9 a0 true a2_0 a2_1)) else (bluebelllaw01_WordPacks.j2 kj9 a0 true a2_0 a2_1)))) = some r := H
              have A21 := Aside0.mk A210
              clear A210
              replace H := Option.bind_eq_some_iff.mp H
              obtain ⟨⟨t249, t252⟩, A220, H⟩ := H
              replace H : ((bluebellref01_Bytes.f kj9 l1 a2_0 a2_1).bind fun bt253 => (if t245.toList = t247.toList then (if t246 = t248 then (if t252 = bt253.2 then ((bluebellref00_EqBytes.f kj9 t249 bt253.1).bind fun t257 => (bluebelllaw01_WordPacks.j2 kj9 a0 (!t257) a2_0 a2_1)) else (bluebelllaw01_WordPacks.j2 kj9 a0 true a2_0 a2_1)) else (bluebelllaw01_WordPacks.j2 kj9 a0 true a2_0 a2_1)) else (bluebelllaw01_WordPacks.j2 kj9 a0 true a2_0 a2_1))) = some r := H
              have A22 := Aside0.mk A220
              clear A220
              replace H := Option.bind_eq_some_iff.mp H
              obtain ⟨⟨t253, t256⟩, A230, H⟩ := H
              replace H : (if t245.toList = t247.toList then (if t246 = t248 then (if t252 = t256 then ((bluebellref00_EqBytes.f kj9 t249 t253).bind fun t257 => (bluebelllaw01_WordPacks.j2 kj9 a0 (!t257) a2_0 a2_1)) else (bluebelllaw01_WordPacks.j2 kj9 a0 true a2_0 a2_1)) else (bluebelllaw01_WordPacks.j2 kj9 a0 true a2_0 a2_1)) else (bluebelllaw01_WordPacks.j2 kj9 a0 true a2_0 a2_1)) = some r := H
              have A23 := Aside0.mk A230
              clear A230
              have HC24 := Aside0.mk H
              clear H
              have hcz25_0 : wc.cell? ⟨gb235, 0, none⟩ = some (.int .i64 a2_0) := (blk_cell BK235.out 0).trans rfl
              have hcz25_1 : wc.cell? ⟨gb235, 1, none⟩ = some (.bool a2_1) := (blk_cell BK235.out 1).trans rfl
              have hfz25_0 := blk_frozen BK235.out 0
              have hfz25_1 := blk_frozen BK235.out 1
              go_upto_region 11 with (first | ((with_reducible refine gate_callee (f := 35) rfl ?_); refine goesL_ (some 51) rfl rfl Try.func35 (by kernel_rfl) rfl #[.slice A1 l1.length c1, .agg #[.int .i64 a2_0, .bool a2_1]] rfl (by (try simp only [List.map_toArray, List.map_cons, List.map_nil]); first | done | rfl | (simp only [List.length_drop, List.length_take]; rfl)) ?_; (with_reducible refine (word_Unpack.calls kj9 _ _ l1 a2_0 a2_1 t245 t246 _ ?side1 ?side2 A20.out).mono ?_); (case side1 => repeat (first | exact (Kd.C_below HR1.out HB.out) | (with_reducible refine Kd.C_alloc ?_ _) | (with_reducible refine Kd.C_drewN ?_ _) | (with_reducible refine Kd.C_drew ?_))); (case side2 => exact HC1.out); rintro e w26 ⟨rfl, hb⟩; refine ⟨_, rfl, ?_⟩; have n0_ := Aside0.mk (blk_below (g := gb235) (o := .cells #[.int .i64 a2_0, .bool a2_1] 37 (0, 0)) (by (with_reducible repeat (first | refine blk_drewN ?_ _ | refine blk_drew ?_ | refine blk_alloc ?_ _)); exact BK235.out) hb); have n1_ := Aside0.mk (below_step (by repeat (first | (with_reducible first | exact HB.out | apply below_alloc | apply pw_below_drewN | apply below_drew1 | refine below_set ?_ GE235.out) | exact HB.out)) hb); clear BK235; clear HB; have BK235 := n0_; have HB := n1_; clear n0_ n1_; (try clear hb); (try clear hb2); (try clear hk); (try clear hi); have hcz27_0 : w26.cell? ⟨gb235, 0, none⟩ = some (.int .i64 a2_0) := (blk_cell BK235.out 0).trans rfl; have hcz27_1 : w26.cell? ⟨gb235, 1, none⟩ = some (.bool a2_1) := (blk_cell BK235.out 1).trans rfl; have hfz27_0 := blk_frozen BK235.out 0; have hfz27_1 := blk_frozen BK235.out 1) | ((with_reducible refine gate_callee (f := 36) rfl ?_); refine goesL_ (some 57) rfl rfl Try.func36 (by kernel_rfl) rfl #[.slice A1 l1.length c1, .agg #[.int .i64 a2_0, .bool a2_1]] rfl (by (try simp only [List.map_toArray, List.map_cons, List.map_nil]); first | done | rfl | (simp only [List.length_drop, List.length_take]; rfl)) ?_; (with_reducible refine (bluebellref01_Unpack.calls kj9 _ _ l1 a2_0 a2_1 t247 t248 _ ?side1 ?side2 A21.out).mono ?_); (case side1 => repeat (first | exact (Kd.C_below HR1.out HB.out) | (with_reducible refine Kd.C_alloc ?_ _) | (with_reducible refine Kd.C_drewN ?_ _) | (with_reducible refine Kd.C_drew ?_))); (case side2 => exact HC1.out); rintro e w28 ⟨rfl, hb⟩; refine ⟨_, rfl, ?_⟩; have n0_ := Aside0.mk (blk_below (g := gb235) (o := .cells #[.int .i64 a2_0, .bool a2_1] 37 (0, 0)) (by (with_reducible repeat (first | refine blk_drewN ?_ _ | refine blk_drew ?_ | refine blk_alloc ?_ _)); exact BK235.out) hb); have n1_ := Aside0.mk (below_step (by repeat (first | (with_reducible first | exact HB.out | apply below_alloc | apply pw_below_drewN | apply below_drew1 | refine below_set ?_ GE235.out) | exact HB.out)) hb); clear BK235; clear HB; have BK235 := n0_; have HB := n1_; clear n0_ n1_; (try clear hb); (try clear hb2); (try clear hk); (try clear hi); have hcz29_0 : w28.cell? ⟨gb235, 0, none⟩ = some (.int .i64 a2_0) := (blk_cell BK235.out 0).trans rfl; have hcz29_1 : w28.cell? ⟨gb235, 1, none⟩ = some (.bool a2_1) := (blk_cell BK235.out 1).trans rfl; have hfz29_0 := blk_frozen BK235.out 0; have hfz29_1 := blk_frozen BK235.out 1) | ((with_reducible refine gate_callee (f := 37) rfl ?_); refine goesL_ (some 63) rfl rfl Try.func37 (by kernel_rfl) rfl #[.slice A1 l1.length c1, .agg #[.int .i64 a2_0, .bool a2_1]] rfl (by (try simp only [List.map_toArray, List.map_cons, List.map_nil]); first | done | rfl | (simp only [List.length_drop, List.length_take]; rfl)) ?_; (with_reducible refine (word_Bytes.calls kj9 _ _ l1 a2_0 a2_1 t249 t252 _ ?side1 ?side2 A22.out).mono ?_); (case side1 => repeat (first | exact (Kd.C_below HR1.out HB.out) | (with_reducible refine Kd.C_alloc ?_ _) | (with_reducible refine Kd.C_drewN ?_ _) | (with_reducible refine Kd.C_drew ?_))); (case side2 => exact HC1.out); rintro e w30 ⟨v250, rfl, ho0, hb⟩; refine ⟨_, rfl, ?_⟩; have n0_ := Aside0.mk (Kd.R_lower ho0 (below_size (by repeat (first | (with_reducible first | exact HB.out | apply below_alloc | apply pw_below_drewN | apply below_drew1 | refine below_set ?_ GE235.out) | exact HB.out)))); have n1_ := Aside0.mk (blk_below (g := gb235) (o := .cells #[.int .i64 a2_0, .bool a2_1] 37 (0, 0)) (by (with_reducible repeat (first | refine blk_drewN ?_ _ | refine blk_drew ?_ | refine blk_alloc ?_ _)); exact BK235.out) hb); have n2_ := Aside0.mk (below_step (by repeat (first | (with_reducible first | exact HB.out | apply below_alloc | apply pw_below_drewN | apply below_drew1 | refine below_set ?_ GE235.out) | exact HB.out)) hb); clear BK235; clear HB; have HO251 := n0_; have BK235 := n1_; have HB := n2_; clear n0_ n1_ n2_; (try clear hb); (try clear hb2); (try clear hk); (try clear hi); (try clear ho0); have hcz31_0 : w30.cell? ⟨gb235, 0, none⟩ = some (.int .i64 a2_0) := (blk_cell BK235.out 0).trans rfl; have hcz31_1 : w30.cell? ⟨gb235, 1, none⟩ = some (.bool a2_1) := (blk_cell BK235.out 1).trans rfl; have hfz31_0 := blk_frozen BK235.out 0; have hfz31_1 := blk_frozen BK235.out 1) | ((with_reducible refine gate_callee (f := 38) rfl ?_); refine goesL_ (some 69) rfl rfl Try.func38 (by kernel_rfl) rfl #[.slice A1 l1.length c1, .agg #[.int .i64 a2_0, .bool a2_1]] rfl (by (try simp only [List.map_toArray, List.map_cons, List.map_nil]); first | done | rfl | (simp only [List.length_drop, List.length_take]; rfl)) ?_; (with_reducible refine (bluebellref01_Bytes.calls kj9 _ _ l1 a2_0 a2_1 t253 t256 _ ?side1 ?side2 A23.out).mono ?_); (case side1 => repeat (first | exact (Kd.C_below HR1.out HB.out) | (with_reducible refine Kd.C_alloc ?_ _) | (with_reducible refine Kd.C_drewN ?_ _) | (with_reducible refine Kd.C_drew ?_))); (case side2 => exact HC1.out); rintro e w32 ⟨v254, rfl, ho0, hb⟩; refine ⟨_, rfl, ?_⟩; have n0_ := Aside0.mk (Kd.R_elder' (by (with_reducible repeat (first | apply Kd.R_alloc | apply Kd.R_drewN | apply Kd.R_drew)); exact HO251.out) (Kd.R_base ho0) hb); have n1_ := Aside0.mk (Kd.R_lower (Kd.R_new' ho0 (Kd.R_lt (by (with_reducible repeat (first | apply Kd.R_alloc | apply Kd.R_drewN | apply Kd.R_drew)); exact HO251.out))) (below_size (by repeat (first | (with_reducible first | exact HB.out | apply below_alloc | apply pw_below_drewN | apply below_drew1 | refine below_set ?_ GE235.out) | exact HB.out)))); have n2_ := Aside0.mk (blk_below (g := gb235) (o := .cells #[.int .i64 a2_0, .bool a2_1] 37 (0, 0)) (by (with_reducible repeat (first | refine blk_drewN ?_ _ | refine blk_drew ?_ | refine blk_alloc ?_ _)); exact BK235.out) hb); have n3_ := Aside0.mk (below_step (by repeat (first | (with_reducible first | exact HB.out | apply below_alloc | apply pw_below_drewN | apply below_drew1 | refine below_set ?_ GE235.out) | exact HB.out)) hb); clear HO251; clear BK235; clear HB; have HO251 := n0_; have HO255 := n1_; have BK235 := n2_; have HB := n3_; clear n0_ n1_ n2_ n3_; (try clear hb); (try clear hb2); (try clear hk); (try clear hi); (try clear ho0)))
              (try simp only [Act.put, List.setIfInBounds_toArray, List.set_cons_zero, List.set_cons_succ])
              go_cut [90] (fun v90 wc => ∃ (kq : Nat) (x90_23 : Bool), v90 = .bool x90_23 ∧ Aside0 (bluebelllaw01_WordPacks.j2 kq a0 x90_23 a2_0 a2_1 = some r) ∧ Aside0 (kq ≤ kj9) ∧ Aside0 (wc.heap[gb235]? = some (.cells #[.int .i64 a2_0, .bool a2_1] 37 (0, 0))) ∧ Aside0 (Below w.heap.size w wc))
              case first =>
                have H := HC24.out
                clear HC24
                by_cases c33 : t245.toList = t247.toList
                · rw [if_pos c33] at H
                  have c33b0 : (t245.toList == t247.toList) = true := beq_iff_eq.mpr c33
                  have c33b1 : (t245.toList != t247.toList) = false := bne_eq_false_iff_eq.mpr c33
                  clear c33
                  (first | rw [c33b0] | (simp only [i64_w, i32_w]; rw [c33b0]) | skip)
                  by_cases c34 : t246 = t248
                  · rw [if_pos c34] at H
                    have c34b0 : (t246 == t248) = true := beq_iff_eq.mpr c34
                    have c34b1 : (t246 != t248) = false := bne_eq_false_iff_eq.mpr c34
                    clear c34
                    by_cases c35 : t252 = t256
                    · rw [if_pos c35] at H
                      have c35b0 : (t252 == t256) = true := beq_iff_eq.mpr c35
                      have c35b1 : (t252 != t256) = false := bne_eq_false_iff_eq.mpr c35
                      clear c35
                      replace H := Option.bind_eq_some_iff.mp H
                      obtain ⟨t257, A360, H⟩ := H
                      replace H : (bluebelllaw01_WordPacks.j2 kj9 a0 (!t257) a2_0 a2_1) = some r := H
                      have A36 := Aside0.mk A360
                      clear A360
                      have H' := Aside0.mk H
                      clear H
                      obtain ⟨Ao37, co37, eo37⟩ := Kd.R_slice HO251.out
                      subst eo37
                      obtain ⟨Ao38, co38, eo38⟩ := Kd.R_slice HO255.out
                      subst eo38
                      go_wp2_with (first | (go_at_call 39; (with_reducible refine (bluebellref00_EqBytes.calls kj9 _ _ t249 _ _ t253 t257 _ ?side1 ?side2 ?side3 ?side4 A36.out).mono ?_); (case side1 => repeat (first | exact (Kd.R_reads' HO251.out).2.2 | (with_reducible refine Kd.C_alloc ?_ _) | (with_reducible refine Kd.C_drewN ?_ _) | (with_reducible refine Kd.C_drew ?_))); (case side2 => exact (Kd.R_reads' HO251.out).2.1); (case side3 => repeat (first | exact (Kd.R_reads' HO255.out).2.2 | (with_reducible refine Kd.C_alloc ?_ _) | (with_reducible refine Kd.C_drewN ?_ _) | (with_reducible refine Kd.C_drew ?_))); (case side4 => exact (Kd.R_reads' HO255.out).2.1); rintro e w' ⟨rfl, ⟨nd, rfl⟩⟩))
                      go_meet
                      case rel => exact ⟨_, (!t257), (by first | rfl | (simp; done) | (simp [*]; done)), H', ⟨by have := HJ3.out; have := HJ9.out; first | omega | exact Nat.le_refl _⟩, ⟨by (with_reducible repeat (first | refine blk_drewN ?_ _ | refine blk_drew ?_ | refine blk_alloc ?_ _)); exact BK235.out⟩, ⟨by repeat (first | (with_reducible first | exact HB.out | apply below_alloc | apply pw_below_drewN | apply below_drew1 | refine below_set ?_ GE235.out) | exact HB.out)⟩⟩
                    · rw [if_neg c35] at H
                      have c35b0 : (t252 == t256) = false := beq_eq_false_iff_ne.mpr c35
                      have c35b1 : (t252 != t256) = true := bne_iff_ne.mpr c35
                      have H' := Aside0.mk H
                      clear H
                      go_wp2
                      go_meet
                      case rel => exact ⟨_, (true), (by first | rfl | (simp; done) | (simp [*]; done)), H', ⟨by have := HJ3.out; have := HJ9.out; first | omega | exact Nat.le_refl _⟩, ⟨by (with_reducible repeat (first | refine blk_drewN ?_ _ | refine blk_drew ?_ | refine blk_alloc ?_ _)); exact BK235.out⟩, ⟨by repeat (first | (with_reducible first | exact HB.out | apply below_alloc | apply pw_below_drewN | apply below_drew1 | refine below_set ?_ GE235.out) | exact HB.out)⟩⟩
                  · rw [if_neg c34] at H
                    have c34b0 : (t246 == t248) = false := beq_eq_false_iff_ne.mpr c34
                    have c34b1 : (t246 != t248) = true := bne_iff_ne.mpr c34
                    have H' := Aside0.mk H
                    clear H
                    go_wp2
                    go_meet
                    case rel => exact ⟨_, (true), (by first | rfl | (simp; done) | (simp [*]; done)), H', ⟨by have := HJ3.out; have := HJ9.out; first | omega | exact Nat.le_refl _⟩, ⟨by (with_reducible repeat (first | refine blk_drewN ?_ _ | refine blk_drew ?_ | refine blk_alloc ?_ _)); exact BK235.out⟩, ⟨by repeat (first | (with_reducible first | exact HB.out | apply below_alloc | apply pw_below_drewN | apply below_drew1 | refine below_set ?_ GE235.out) | exact HB.out)⟩⟩
                · rw [if_neg c33] at H
                  have c33b0 : (t245.toList == t247.toList) = false := beq_eq_false_iff_ne.mpr c33
                  have c33b1 : (t245.toList != t247.toList) = true := bne_iff_ne.mpr c33
                  (first | rw [c33b0] | (simp only [i64_w, i32_w]; rw [c33b0]) | skip)
                  have H' := Aside0.mk H
                  clear H
                  go_wp2
                  go_meet
                  case rel => exact ⟨_, (true), (by first | rfl | (simp; done) | (simp [*]; done)), H', ⟨by have := HJ3.out; have := HJ9.out; first | omega | exact Nat.le_refl _⟩, ⟨by (with_reducible repeat (first | refine blk_drewN ?_ _ | refine blk_drew ?_ | refine blk_alloc ?_ _)); exact BK235.out⟩, ⟨by repeat (first | (with_reducible first | exact HB.out | apply below_alloc | apply pw_below_drewN | apply below_drew1 | refine below_set ?_ GE235.out) | exact HB.out)⟩⟩
              case rest =>
                clear HC24
                try clear c1
                try clear p2
                try clear c3
                try clear c6
                try clear c6b0
                try clear c6b1
                try clear c7
                try clear c11
                try clear c15
                try clear c15b0
                try clear c15b1
                try clear c19
                try clear c33
                try clear c33b0
                try clear c33b1
                try clear c34
                try clear c34b0
                try clear c34b1
                try clear c35
                try clear c35b0
                try clear c35b1
                try clear c36
                try clear c37
                try clear c38
                try clear hcz11_0
                try clear hcz11_1
                try clear hcz13_0
                try clear hcz13_1
                try clear hcz25_0
                try clear hcz25_1
                try clear hcz27_0
                try clear hcz27_1
                try clear hcz29_0
                try clear hcz29_1
                try clear hcz31_0
                try clear hcz31_1
                try clear hfz11_0
                try clear hfz11_1
                try clear hfz13_0
                try clear hfz13_1
                try clear hfz25_0
                try clear hfz25_1
                try clear hfz27_0
                try clear hfz27_1
                try clear hfz29_0
                try clear hfz29_1
                try clear hfz31_0
                try clear hfz31_1
                try clear p2
                obtain ⟨kq, x90_23, rfl, HA, HJ23, BK235, HB⟩ := hcut
                cases kq with
                | zero => exact absurd HA.out (by simp [bluebelllaw01_WordPacks.j2])
                | succ kj23 =>
                  have H := HA.out
                  clear HA
                  simp only [bluebelllaw01_WordPacks.j2] at H
                  by_cases c39 : x90_23 = true
                  · subst c39
                    have H1 : (some false) = some r := by rw [if_pos rfl] at H; exact H
                    clear H
                    have H := H1
                    clear H1
                    obtain rfl := Option.some.inj H
                    go_wp2
                    go_ret
                    exact ⟨by first | rfl | (simp [errW_none, errW_some] <;> rfl) | (simp [*, errW_none, errW_some] <;> rfl), by repeat (first | (with_reducible first | exact HB.out | apply below_alloc | apply pw_below_drewN | apply below_drew1 | refine below_set ?_ GE235.out) | exact HB.out)⟩
                  · replace c39 := Bool.eq_false_iff.mpr c39
                    subst c39
                    have H1 : ((conv_bytes.f a0).bind fun t258 => ((word_Words.f kj23 t258 a2_0 a2_1).bind fun bt261 => ((conv_bytes.f a0).bind fun t265 => ((bluebellref01_Words.f kj23 t265 a2_0 a2_1).bind fun bt268 => (if bt261.2 = bt268.2 then ((bluebellref00_EqInts.f kj23 bt261.1 bt268.1).bind fun t272 => (if t272 = true then ((bluebelllaw01_awake.f kj23).bind fun t273 => (some t273)) else (some false))) else (some false)))))) = some r := by rw [if_neg (show ¬ (false = true) by decide)] at H; exact H
                    clear H
                    have H := H1
                    clear H1
                    replace H := Option.bind_eq_some_iff.mp H
                    obtain ⟨t258, A400, H⟩ := H
                    replace H : ((word_Words.f kj23 t258 a2_0 a2_1).bind fun bt261 => ((conv_bytes.f a0).bind fun t265 => ((bluebellref01_Words.f kj23 t265 a2_0 a2_1).bind fun bt268 => (if bt261.2 = bt268.2 then ((bluebellref00_EqInts.f kj23 bt261.1 bt268.1).bind fun t272 => (if t272 = true then ((bluebelllaw01_awake.f kj23).bind fun t273 => (some t273)) else (some false))) else (some false))))) = some r := H
                    have A40 := Aside0.mk A400
                    clear A400
                    replace H := Option.bind_eq_some_iff.mp H
                    obtain ⟨⟨t261, t264⟩, A410, H⟩ := H
                    replace H : ((conv_bytes.f a0).bind fun t265 => ((bluebellref01_Words.f kj23 t265 a2_0 a2_1).bind fun bt268 => (if t264 = bt268.2 then ((bluebellref00_EqInts.f kj23 t261 bt268.1).bind fun t272 => (if t272 = true then ((bluebelllaw01_awake.f kj23).bind fun t273 => (some t273)) else (some false))) else (some false)))) = some r := H
                    have A41 := Aside0.mk A410
                    clear A410
                    replace H := Option.bind_eq_some_iff.mp H
                    obtain ⟨t265, A420, H⟩ := H
                    replace H : ((bluebellref01_Words.f kj23 t265 a2_0 a2_1).bind fun bt268 => (if t264 = bt268.2 then ((bluebellref00_EqInts.f kj23 t261 bt268.1).bind fun t272 => (if t272 = true then ((bluebelllaw01_awake.f kj23).bind fun t273 => (some t273)) else (some false))) else (some false))) = some r := H
                    have A42 := Aside0.mk A420
                    clear A420
                    replace H := Option.bind_eq_some_iff.mp H
                    obtain ⟨⟨t268, t271⟩, A430, H⟩ := H
                    replace H : (if t264 = t271 then ((bluebellref00_EqInts.f kj23 t261 t268).bind fun t272 => (if t272 = true then ((bluebelllaw01_awake.f kj23).bind fun t273 => (some t273)) else (some false))) else (some false)) = some r := H
                    have A43 := Aside0.mk A430
                    clear A430
                    by_cases c44 : t264 = t271
                    · rw [if_pos c44] at H
                      have c44b0 : (t264 == t271) = true := beq_iff_eq.mpr c44
                      have c44b1 : (t264 != t271) = false := bne_eq_false_iff_eq.mpr c44
                      clear c44
                      replace H := Option.bind_eq_some_iff.mp H
                      obtain ⟨t272, A450, H⟩ := H
                      replace H : (if t272 = true then ((bluebelllaw01_awake.f kj23).bind fun t273 => (some t273)) else (some false)) = some r := H
                      have A45 := Aside0.mk A450
                      clear A450
                      by_cases c46 : t272 = true
                      · subst c46
                        have H1 : ((bluebelllaw01_awake.f kj23).bind fun t273 => (some t273)) = some r := by rw [if_pos rfl] at H; exact H
                        clear H
                        have H := H1
                        clear H1
                        replace H := Option.bind_eq_some_iff.mp H
                        obtain ⟨t273, A470, H⟩ := H
                        replace H : (some t273) = some r := H
                        have A47 := Aside0.mk A470
                        clear A470
                        obtain rfl := Option.some.inj H
                        go_wp2_with (first | ((with_reducible refine gate_dst (N := 93) rfl ?_); refine conv_event rfl rfl 9 51 5 _ rfl a0 rfl Try.underlying9 Try.underlying51 Try.underlying5 t258 A40.out ?_; intro Ao50 co50 w48 ho0 hc0 hb; have n0_ := Aside0.mk ho0; have n1_ := Aside0.mk (blk_below (g := gb235) (o := .cells #[.int .i64 a2_0, .bool a2_1] 37 (0, 0)) (by (with_reducible repeat (first | refine blk_drewN ?_ _ | refine blk_drew ?_ | refine blk_alloc ?_ _)); exact BK235.out) hb); have n2_ := Aside0.mk (below_step (by repeat (first | (with_reducible first | exact HB.out | apply below_alloc | apply pw_below_drewN | apply below_drew1 | refine below_set ?_ GE235.out) | exact HB.out)) hb); clear BK235; clear HB; have HO260 := n0_; have BK235 := n1_; have HB := n2_; clear n0_ n1_ n2_; (try clear hb); (try clear hb2); (try clear hk); (try clear hi); (try clear ho0); have hcz49_0 : w48.cell? ⟨gb235, 0, none⟩ = some (.int .i64 a2_0) := (blk_cell BK235.out 0).trans rfl; have hcz49_1 : w48.cell? ⟨gb235, 1, none⟩ = some (.bool a2_1) := (blk_cell BK235.out 1).trans rfl; have hfz49_0 := blk_frozen BK235.out 0; have hfz49_1 := blk_frozen BK235.out 1; have HOC260 := Aside0.mk hc0; clear hc0) | ((with_reducible refine gate_callee (f := 40) rfl ?_); refine goesL_ (some 95) rfl rfl Try.func40 (by kernel_rfl) rfl #[.slice Ao50 t258.length co50, .agg #[.int .i64 a2_0, .bool a2_1]] rfl (by (try simp only [List.map_toArray, List.map_cons, List.map_nil]); first | done | rfl | (simp only [List.length_drop, List.length_take]; rfl)) ?_; (with_reducible refine (word_Words.calls kj23 _ _ t258 a2_0 a2_1 t261 t264 _ ?side1 ?side2 A41.out).mono ?_); (case side1 => repeat (first | exact HO260.out | (with_reducible refine Kd.C_alloc ?_ _) | (with_reducible refine Kd.C_drewN ?_ _) | (with_reducible refine Kd.C_drew ?_))); (case side2 => exact HOC260.out); rintro e w51 ⟨v262, rfl, ho0, hb⟩; refine ⟨_, rfl, ?_⟩; have n0_ := Aside0.mk trivial; have n1_ := Aside0.mk (Kd.R_lower ho0 (below_size (by repeat (first | (with_reducible first | exact HB.out | apply below_alloc | apply pw_below_drewN | apply below_drew1 | refine below_set ?_ GE235.out) | exact HB.out)))); have n2_ := Aside0.mk (blk_below (g := gb235) (o := .cells #[.int .i64 a2_0, .bool a2_1] 37 (0, 0)) (by (with_reducible repeat (first | refine blk_drewN ?_ _ | refine blk_drew ?_ | refine blk_alloc ?_ _)); exact BK235.out) hb); have n3_ := Aside0.mk (below_step (by repeat (first | (with_reducible first | exact HB.out | apply below_alloc | apply pw_below_drewN | apply below_drew1 | refine below_set ?_ GE235.out) | exact HB.out)) hb); clear HO260; clear BK235; clear HB; have HO260 := n0_; have HO263 := n1_; have BK235 := n2_; have HB := n3_; clear n0_ n1_ n2_ n3_; (try clear hb); (try clear hb2); (try clear hk); (try clear hi); (try clear ho0)) | ((with_reducible refine gate_dst (N := 100) rfl ?_); refine conv_event rfl rfl 9 51 5 _ rfl a0 rfl Try.underlying9 Try.underlying51 Try.underlying5 t265 A42.out ?_; intro Ao54 co54 w52 ho0 hc0 hb; have n0_ := Aside0.mk trivial; have n1_ := Aside0.mk (Kd.R_below (by (with_reducible repeat (first | apply Kd.R_alloc | apply Kd.R_drewN | apply Kd.R_drew)); exact HO263.out) hb); have n2_ := Aside0.mk ho0; have n3_ := Aside0.mk (blk_below (g := gb235) (o := .cells #[.int .i64 a2_0, .bool a2_1] 37 (0, 0)) (by (with_reducible repeat (first | refine blk_drewN ?_ _ | refine blk_drew ?_ | refine blk_alloc ?_ _)); exact BK235.out) hb); have n4_ := Aside0.mk (below_step (by repeat (first | (with_reducible first | exact HB.out | apply below_alloc | apply pw_below_drewN | apply below_drew1 | refine below_set ?_ GE235.out) | exact HB.out)) hb); clear HO260; clear HO263; clear BK235; clear HB; have HO260 := n0_; have HO263 := n1_; have HO267 := n2_; have BK235 := n3_; have HB := n4_; clear n0_ n1_ n2_ n3_ n4_; (try clear hb); (try clear hb2); (try clear hk); (try clear hi); (try clear ho0); have hcz53_0 : w52.cell? ⟨gb235, 0, none⟩ = some (.int .i64 a2_0) := (blk_cell BK235.out 0).trans rfl; have hcz53_1 : w52.cell? ⟨gb235, 1, none⟩ = some (.bool a2_1) := (blk_cell BK235.out 1).trans rfl; have hfz53_0 := blk_frozen BK235.out 0; have hfz53_1 := blk_frozen BK235.out 1; have HOC267 := Aside0.mk hc0; clear hc0) | ((with_reducible refine gate_callee (f := 41) rfl ?_); refine goesL_ (some 102) rfl rfl Try.func41 (by kernel_rfl) rfl #[.slice Ao54 t265.length co54, .agg #[.int .i64 a2_0, .bool a2_1]] rfl (by (try simp only [List.map_toArray, List.map_cons, List.map_nil]); first | done | rfl | (simp only [List.length_drop, List.length_take]; rfl)) ?_; (with_reducible refine (bluebellref01_Words.calls kj23 _ _ t265 a2_0 a2_1 t268 t271 _ ?side1 ?side2 A43.out).mono ?_); (case side1 => repeat (first | exact HO267.out | (with_reducible refine Kd.C_alloc ?_ _) | (with_reducible refine Kd.C_drewN ?_ _) | (with_reducible refine Kd.C_drew ?_))); (case side2 => exact HOC267.out); rintro e w55 ⟨v269, rfl, ho0, hb⟩; refine ⟨_, rfl, ?_⟩; have n0_ := Aside0.mk trivial; have n1_ := Aside0.mk (Kd.R_elder' (by (with_reducible repeat (first | apply Kd.R_alloc | apply Kd.R_drewN | apply Kd.R_drew)); exact HO263.out) (Kd.R_base ho0) hb); have n2_ := Aside0.mk trivial; have n3_ := Aside0.mk (Kd.R_lower (Kd.R_new' ho0 (Kd.R_lt (by (with_reducible repeat (first | apply Kd.R_alloc | apply Kd.R_drewN | apply Kd.R_drew)); exact HO263.out))) (below_size (by repeat (first | (with_reducible first | exact HB.out | apply below_alloc | apply pw_below_drewN | apply below_drew1 | refine below_set ?_ GE235.out) | exact HB.out)))); have n4_ := Aside0.mk (blk_below (g := gb235) (o := .cells #[.int .i64 a2_0, .bool a2_1] 37 (0, 0)) (by (with_reducible repeat (first | refine blk_drewN ?_ _ | refine blk_drew ?_ | refine blk_alloc ?_ _)); exact BK235.out) hb); have n5_ := Aside0.mk (below_step (by repeat (first | (with_reducible first | exact HB.out | apply below_alloc | apply pw_below_drewN | apply below_drew1 | refine below_set ?_ GE235.out) | exact HB.out)) hb); clear HO260; clear HO263; clear HO267; clear BK235; clear HB; have HO260 := n0_; have HO263 := n1_; have HO267 := n2_; have HO270 := n3_; have BK235 := n4_; have HB := n5_; clear n0_ n1_ n2_ n3_ n4_ n5_; (try clear hb); (try clear hb2); (try clear hk); (try clear hi); (try clear ho0); obtain ⟨Ao56, co56, eo56⟩ := Kd.R_slice HO263.out; subst eo56; obtain ⟨Ao57, co57, eo57⟩ := Kd.R_slice HO270.out; subst eo57) | (go_at_call 32; (with_reducible refine (bluebellref00_EqInts.calls kj23 _ _ t261 _ _ t268 true _ ?side1 ?side2 ?side3 ?side4 A45.out).mono ?_); (case side1 => repeat (first | exact (Kd.R_reads' HO263.out).2.2 | (with_reducible refine Kd.C_alloc ?_ _) | (with_reducible refine Kd.C_drewN ?_ _) | (with_reducible refine Kd.C_drew ?_))); (case side2 => exact (Kd.R_reads' HO263.out).2.1); (case side3 => repeat (first | exact (Kd.R_reads' HO270.out).2.2 | (with_reducible refine Kd.C_alloc ?_ _) | (with_reducible refine Kd.C_drewN ?_ _) | (with_reducible refine Kd.C_drew ?_))); (case side4 => exact (Kd.R_reads' HO270.out).2.1); rintro e w' ⟨rfl, ⟨nd, rfl⟩⟩) | (go_at_call 15; (with_reducible refine (bluebelllaw01_awake.calls kj23  t273 _ A47.out).mono ?_); rintro e w58 ⟨rfl, hb⟩; have n0_ := Aside0.mk trivial; have n1_ := Aside0.mk (Kd.R_below (by (with_reducible repeat (first | apply Kd.R_alloc | apply Kd.R_drewN | apply Kd.R_drew)); exact HO263.out) hb); have n2_ := Aside0.mk trivial; have n3_ := Aside0.mk (Kd.R_below (by (with_reducible repeat (first | apply Kd.R_alloc | apply Kd.R_drewN | apply Kd.R_drew)); exact HO270.out) hb); have n4_ := Aside0.mk (blk_below (g := gb235) (o := .cells #[.int .i64 a2_0, .bool a2_1] 37 (0, 0)) (by (with_reducible repeat (first | refine blk_drewN ?_ _ | refine blk_drew ?_ | refine blk_alloc ?_ _)); exact BK235.out) hb); have n5_ := Aside0.mk (below_step (by repeat (first | (with_reducible first | exact HB.out | apply below_alloc | apply pw_below_drewN | apply below_drew1 | refine below_set ?_ GE235.out) | exact HB.out)) hb); clear HO260; clear HO263; clear HO267; clear HO270; clear BK235; clear HB; have HO260 := n0_; have HO263 := n1_; have HO267 := n2_; have HO270 := n3_; have BK235 := n4_; have HB := n5_; clear n0_ n1_ n2_ n3_ n4_ n5_; (try clear hb); (try clear hb2); (try clear hk); (try clear hi)))
                        go_ret
                        exact ⟨by first | rfl | (simp [errW_none, errW_some] <;> rfl) | (simp [*, errW_none, errW_some] <;> rfl), by repeat (first | (with_reducible first | exact HB.out | apply below_alloc | apply pw_below_drewN | apply below_drew1 | refine below_set ?_ GE235.out) | exact HB.out)⟩
                      · replace c46 := Bool.eq_false_iff.mpr c46
                        subst c46
                        have H1 : (some false) = some r := by rw [if_neg (show ¬ (false = true) by decide)] at H; exact H
                        clear H
                        have H := H1
                        clear H1
                        obtain rfl := Option.some.inj H
                        go_wp2_with (first | ((with_reducible refine gate_dst (N := 93) rfl ?_); refine conv_event rfl rfl 9 51 5 _ rfl a0 rfl Try.underlying9 Try.underlying51 Try.underlying5 t258 A40.out ?_; intro Ao61 co61 w59 ho0 hc0 hb; have n0_ := Aside0.mk ho0; have n1_ := Aside0.mk (blk_below (g := gb235) (o := .cells #[.int .i64 a2_0, .bool a2_1] 37 (0, 0)) (by (with_reducible repeat (first | refine blk_drewN ?_ _ | refine blk_drew ?_ | refine blk_alloc ?_ _)); exact BK235.out) hb); have n2_ := Aside0.mk (below_step (by repeat (first | (with_reducible first | exact HB.out | apply below_alloc | apply pw_below_drewN | apply below_drew1 | refine below_set ?_ GE235.out) | exact HB.out)) hb); clear BK235; clear HB; have HO260 := n0_; have BK235 := n1_; have HB := n2_; clear n0_ n1_ n2_; (try clear hb); (try clear hb2); (try clear hk); (try clear hi); (try clear ho0); have hcz60_0 : w59.cell? ⟨gb235, 0, none⟩ = some (.int .i64 a2_0) := (blk_cell BK235.out 0).trans rfl; have hcz60_1 : w59.cell? ⟨gb235, 1, none⟩ = some (.bool a2_1) := (blk_cell BK235.out 1).trans rfl; have hfz60_0 := blk_frozen BK235.out 0; have hfz60_1 := blk_frozen BK235.out 1; have HOC260 := Aside0.mk hc0; clear hc0) | ((with_reducible refine gate_callee (f := 40) rfl ?_); refine goesL_ (some 95) rfl rfl Try.func40 (by kernel_rfl) rfl #[.slice Ao61 t258.length co61, .agg #[.int .i64 a2_0, .bool a2_1]] rfl (by (try simp only [List.map_toArray, List.map_cons, List.map_nil]); first | done | rfl | (simp only [List.length_drop, List.length_take]; rfl)) ?_; (with_reducible refine (word_Words.calls kj23 _ _ t258 a2_0 a2_1 t261 t264 _ ?side1 ?side2 A41.out).mono ?_); (case side1 => repeat (first | exact HO260.out | (with_reducible refine Kd.C_alloc ?_ _) | (with_reducible refine Kd.C_drewN ?_ _) | (with_reducible refine Kd.C_drew ?_))); (case side2 => exact HOC260.out); rintro e w62 ⟨v262, rfl, ho0, hb⟩; refine ⟨_, rfl, ?_⟩; have n0_ := Aside0.mk trivial; have n1_ := Aside0.mk (Kd.R_lower ho0 (below_size (by repeat (first | (with_reducible first | exact HB.out | apply below_alloc | apply pw_below_drewN | apply below_drew1 | refine below_set ?_ GE235.out) | exact HB.out)))); have n2_ := Aside0.mk (blk_below (g := gb235) (o := .cells #[.int .i64 a2_0, .bool a2_1] 37 (0, 0)) (by (with_reducible repeat (first | refine blk_drewN ?_ _ | refine blk_drew ?_ | refine blk_alloc ?_ _)); exact BK235.out) hb); have n3_ := Aside0.mk (below_step (by repeat (first | (with_reducible first | exact HB.out | apply below_alloc | apply pw_below_drewN | apply below_drew1 | refine below_set ?_ GE235.out) | exact HB.out)) hb); clear HO260; clear BK235; clear HB; have HO260 := n0_; have HO263 := n1_; have BK235 := n2_; have HB := n3_; clear n0_ n1_ n2_ n3_; (try clear hb); (try clear hb2); (try clear hk); (try clear hi); (try clear ho0)) | ((with_reducible refine gate_dst (N := 100) rfl ?_); refine conv_event rfl rfl 9 51 5 _ rfl a0 rfl Try.underlying9 Try.underlying51 Try.underlying5 t265 A42.out ?_; intro Ao65 co65 w63 ho0 hc0 hb; have n0_ := Aside0.mk trivial; have n1_ := Aside0.mk (Kd.R_below (by (with_reducible repeat (first | apply Kd.R_alloc | apply Kd.R_drewN | apply Kd.R_drew)); exact HO263.out) hb); have n2_ := Aside0.mk ho0; have n3_ := Aside0.mk (blk_below (g := gb235) (o := .cells #[.int .i64 a2_0, .bool a2_1] 37 (0, 0)) (by (with_reducible repeat (first | refine blk_drewN ?_ _ | refine blk_drew ?_ | refine blk_alloc ?_ _)); exact BK235.out) hb); have n4_ := Aside0.mk (below_step (by repeat (first | (with_reducible first | exact HB.out | apply below_alloc | apply pw_below_drewN | apply below_drew1 | refine below_set ?_ GE235.out) | exact HB.out)) hb); clear HO260; clear HO263; clear BK235; clear HB; have HO260 := n0_; have HO263 := n1_; have HO267 := n2_; have BK235 := n3_; have HB := n4_; clear n0_ n1_ n2_ n3_ n4_; (try clear hb); (try clear hb2); (try clear hk); (try clear hi); (try clear ho0); have hcz64_0 : w63.cell? ⟨gb235, 0, none⟩ = some (.int .i64 a2_0) := (blk_cell BK235.out 0).trans rfl; have hcz64_1 : w63.cell? ⟨gb235, 1, none⟩ = some (.bool a2_1) := (blk_cell BK235.out 1).trans rfl; have hfz64_0 := blk_frozen BK235.out 0; have hfz64_1 := blk_frozen BK235.out 1; have HOC267 := Aside0.mk hc0; clear hc0) | ((with_reducible refine gate_callee (f := 41) rfl ?_); refine goesL_ (some 102) rfl rfl Try.func41 (by kernel_rfl) rfl #[.slice Ao65 t265.length co65, .agg #[.int .i64 a2_0, .bool a2_1]] rfl (by (try simp only [List.map_toArray, List.map_cons, List.map_nil]); first | done | rfl | (simp only [List.length_drop, List.length_take]; rfl)) ?_; (with_reducible refine (bluebellref01_Words.calls kj23 _ _ t265 a2_0 a2_1 t268 t271 _ ?side1 ?side2 A43.out).mono ?_); (case side1 => repeat (first | exact HO267.out | (with_reducible refine Kd.C_alloc ?_ _) | (with_reducible refine Kd.C_drewN ?_ _) | (with_reducible refine Kd.C_drew ?_))); (case side2 => exact HOC267.out); rintro e w66 ⟨v269, rfl, ho0, hb⟩; refine ⟨_, rfl, ?_⟩; have n0_ := Aside0.mk trivial; have n1_ := Aside0.mk (Kd.R_elder' (by (with_reducible repeat (first | apply Kd.R_alloc | apply Kd.R_drewN | apply Kd.R_drew)); exact HO263.out) (Kd.R_base ho0) hb); have n2_ := Aside0.mk trivial; have n3_ := Aside0.mk (Kd.R_lower (Kd.R_new' ho0 (Kd.R_lt (by (with_reducible repeat (first | apply Kd.R_alloc | apply Kd.R_drewN | apply Kd.R_drew)); exact HO263.out))) (below_size (by repeat (first | (with_reducible first | exact HB.out | apply below_alloc | apply pw_below_drewN | apply below_drew1 | refine below_set ?_ GE235.out) | exact HB.out)))); have n4_ := Aside0.mk (blk_below (g := gb235) (o := .cells #[.int .i64 a2_0, .bool a2_1] 37 (0, 0)) (by (with_reducible repeat (first | refine blk_drewN ?_ _ | refine blk_drew ?_ | refine blk_alloc ?_ _)); exact BK235.out) hb); have n5_ := Aside0.mk (below_step (by repeat (first | (with_reducible first | exact HB.out | apply below_alloc | apply pw_below_drewN | apply below_drew1 | refine below_set ?_ GE235.out) | exact HB.out)) hb); clear HO260; clear HO263; clear HO267; clear BK235; clear HB; have HO260 := n0_; have HO263 := n1_; have HO267 := n2_; have HO270 := n3_; have BK235 := n4_; have HB := n5_; clear n0_ n1_ n2_ n3_ n4_ n5_; (try clear hb); (try clear hb2); (try clear hk); (try clear hi); (try clear ho0); obtain ⟨Ao67, co67, eo67⟩ := Kd.R_slice HO263.out; subst eo67; obtain ⟨Ao68, co68, eo68⟩ := Kd.R_slice HO270.out; subst eo68) | (go_at_call 32; (with_reducible refine (bluebellref00_EqInts.calls kj23 _ _ t261 _ _ t268 false _ ?side1 ?side2 ?side3 ?side4 A45.out).mono ?_); (case side1 => repeat (first | exact (Kd.R_reads' HO263.out).2.2 | (with_reducible refine Kd.C_alloc ?_ _) | (with_reducible refine Kd.C_drewN ?_ _) | (with_reducible refine Kd.C_drew ?_))); (case side2 => exact (Kd.R_reads' HO263.out).2.1); (case side3 => repeat (first | exact (Kd.R_reads' HO270.out).2.2 | (with_reducible refine Kd.C_alloc ?_ _) | (with_reducible refine Kd.C_drewN ?_ _) | (with_reducible refine Kd.C_drew ?_))); (case side4 => exact (Kd.R_reads' HO270.out).2.1); rintro e w' ⟨rfl, ⟨nd, rfl⟩⟩))
                        go_ret
                        exact ⟨by first | rfl | (simp [errW_none, errW_some] <;> rfl) | (simp [*, errW_none, errW_some] <;> rfl), by repeat (first | (with_reducible first | exact HB.out | apply below_alloc | apply pw_below_drewN | apply below_drew1 | refine below_set ?_ GE235.out) | exact HB.out)⟩
                    · rw [if_neg c44] at H
                      have c44b0 : (t264 == t271) = false := beq_eq_false_iff_ne.mpr c44
                      have c44b1 : (t264 != t271) = true := bne_iff_ne.mpr c44
                      obtain rfl := Option.some.inj H
                      go_wp2_with (first | ((with_reducible refine gate_dst (N := 93) rfl ?_); refine conv_event rfl rfl 9 51 5 _ rfl a0 rfl Try.underlying9 Try.underlying51 Try.underlying5 t258 A40.out ?_; intro Ao71 co71 w69 ho0 hc0 hb; have n0_ := Aside0.mk ho0; have n1_ := Aside0.mk (blk_below (g := gb235) (o := .cells #[.int .i64 a2_0, .bool a2_1] 37 (0, 0)) (by (with_reducible repeat (first | refine blk_drewN ?_ _ | refine blk_drew ?_ | refine blk_alloc ?_ _)); exact BK235.out) hb); have n2_ := Aside0.mk (below_step (by repeat (first | (with_reducible first | exact HB.out | apply below_alloc | apply pw_below_drewN | apply below_drew1 | refine below_set ?_ GE235.out) | exact HB.out)) hb); clear BK235; clear HB; have HO260 := n0_; have BK235 := n1_; have HB := n2_; clear n0_ n1_ n2_; (try clear hb); (try clear hb2); (try clear hk); (try clear hi); (try clear ho0); have hcz70_0 : w69.cell? ⟨gb235, 0, none⟩ = some (.int .i64 a2_0) := (blk_cell BK235.out 0).trans rfl; have hcz70_1 : w69.cell? ⟨gb235, 1, none⟩ = some (.bool a2_1) := (blk_cell BK235.out 1).trans rfl; have hfz70_0 := blk_frozen BK235.out 0; have hfz70_1 := blk_frozen BK235.out 1; have HOC260 := Aside0.mk hc0; clear hc0) | ((with_reducible refine gate_callee (f := 40) rfl ?_); refine goesL_ (some 95) rfl rfl Try.func40 (by kernel_rfl) rfl #[.slice Ao71 t258.length co71, .agg #[.int .i64 a2_0, .bool a2_1]] rfl (by (try simp only [List.map_toArray, List.map_cons, List.map_nil]); first | done | rfl | (simp only [List.length_drop, List.length_take]; rfl)) ?_; (with_reducible refine (word_Words.calls kj23 _ _ t258 a2_0 a2_1 t261 t264 _ ?side1 ?side2 A41.out).mono ?_); (case side1 => repeat (first | exact HO260.out | (with_reducible refine Kd.C_alloc ?_ _) | (with_reducible refine Kd.C_drewN ?_ _) | (with_reducible refine Kd.C_drew ?_))); (case side2 => exact HOC260.out); rintro e w72 ⟨v262, rfl, ho0, hb⟩; refine ⟨_, rfl, ?_⟩; have n0_ := Aside0.mk trivial; have n1_ := Aside0.mk (Kd.R_lower ho0 (below_size (by repeat (first | (with_reducible first | exact HB.out | apply below_alloc | apply pw_below_drewN | apply below_drew1 | refine below_set ?_ GE235.out) | exact HB.out)))); have n2_ := Aside0.mk (blk_below (g := gb235) (o := .cells #[.int .i64 a2_0, .bool a2_1] 37 (0, 0)) (by (with_reducible repeat (first | refine blk_drewN ?_ _ | refine blk_drew ?_ | refine blk_alloc ?_ _)); exact BK235.out) hb); have n3_ := Aside0.mk (below_step (by repeat (first | (with_reducible first | exact HB.out | apply below_alloc | apply pw_below_drewN | apply below_drew1 | refine below_set ?_ GE235.out) | exact HB.out)) hb); clear HO260; clear BK235; clear HB; have HO260 := n0_; have HO263 := n1_; have BK235 := n2_; have HB := n3_; clear n0_ n1_ n2_ n3_; (try clear hb); (try clear hb2); (try clear hk); (try clear hi); (try clear ho0)) | ((with_reducible refine gate_dst (N := 100) rfl ?_); refine conv_event rfl rfl 9 51 5 _ rfl a0 rfl Try.underlying9 Try.underlying51 Try.underlying5 t265 A42.out ?_; intro Ao75 co75 w73 ho0 hc0 hb; have n0_ := Aside0.mk trivial; have n1_ := Aside0.mk (Kd.R_below (by (with_reducible repeat (first | apply Kd.R_alloc | apply Kd.R_drewN | apply Kd.R_drew)); exact HO263.out) hb); have n2_ := Aside0.mk ho0; have n3_ := Aside0.mk (blk_below (g := gb235) (o := .cells #[.int .i64 a2_0, .bool a2_1] 37 (0, 0)) (by (with_reducible repeat (first | refine blk_drewN ?_ _ | refine blk_drew ?_ | refine blk_alloc ?_ _)); exact BK235.out) hb); have n4_ := Aside0.mk (below_step (by repeat (first | (with_reducible first | exact HB.out | apply below_alloc | apply pw_below_drewN | apply below_drew1 | refine below_set ?_ GE235.out) | exact HB.out)) hb); clear HO260; clear HO263; clear BK235; clear HB; have HO260 := n0_; have HO263 := n1_; have HO267 := n2_; have BK235 := n3_; have HB := n4_; clear n0_ n1_ n2_ n3_ n4_; (try clear hb); (try clear hb2); (try clear hk); (try clear hi); (try clear ho0); have hcz74_0 : w73.cell? ⟨gb235, 0, none⟩ = some (.int .i64 a2_0) := (blk_cell BK235.out 0).trans rfl; have hcz74_1 : w73.cell? ⟨gb235, 1, none⟩ = some (.bool a2_1) := (blk_cell BK235.out 1).trans rfl; have hfz74_0 := blk_frozen BK235.out 0; have hfz74_1 := blk_frozen BK235.out 1; have HOC267 := Aside0.mk hc0; clear hc0) | ((with_reducible refine gate_callee (f := 41) rfl ?_); refine goesL_ (some 102) rfl rfl Try.func41 (by kernel_rfl) rfl #[.slice Ao75 t265.length co75, .agg #[.int .i64 a2_0, .bool a2_1]] rfl (by (try simp only [List.map_toArray, List.map_cons, List.map_nil]); first | done | rfl | (simp only [List.length_drop, List.length_take]; rfl)) ?_; (with_reducible refine (bluebellref01_Words.calls kj23 _ _ t265 a2_0 a2_1 t268 t271 _ ?side1 ?side2 A43.out).mono ?_); (case side1 => repeat (first | exact HO267.out | (with_reducible refine Kd.C_alloc ?_ _) | (with_reducible refine Kd.C_drewN ?_ _) | (with_reducible refine Kd.C_drew ?_))); (case side2 => exact HOC267.out); rintro e w76 ⟨v269, rfl, ho0, hb⟩; refine ⟨_, rfl, ?_⟩; have n0_ := Aside0.mk trivial; have n1_ := Aside0.mk (Kd.R_elder' (by (with_reducible repeat (first | apply Kd.R_alloc | apply Kd.R_drewN | apply Kd.R_drew)); exact HO263.out) (Kd.R_base ho0) hb); have n2_ := Aside0.mk trivial; have n3_ := Aside0.mk (Kd.R_lower (Kd.R_new' ho0 (Kd.R_lt (by (with_reducible repeat (first | apply Kd.R_alloc | apply Kd.R_drewN | apply Kd.R_drew)); exact HO263.out))) (below_size (by repeat (first | (with_reducible first | exact HB.out | apply below_alloc | apply pw_below_drewN | apply below_drew1 | refine below_set ?_ GE235.out) | exact HB.out)))); have n4_ := Aside0.mk (blk_below (g := gb235) (o := .cells #[.int .i64 a2_0, .bool a2_1] 37 (0, 0)) (by (with_reducible repeat (first | refine blk_drewN ?_ _ | refine blk_drew ?_ | refine blk_alloc ?_ _)); exact BK235.out) hb); have n5_ := Aside0.mk (below_step (by repeat (first | (with_reducible first | exact HB.out | apply below_alloc | apply pw_below_drewN | apply below_drew1 | refine below_set ?_ GE235.out) | exact HB.out)) hb); clear HO260; clear HO263; clear HO267; clear BK235; clear HB; have HO260 := n0_; have HO263 := n1_; have HO267 := n2_; have HO270 := n3_; have BK235 := n4_; have HB := n5_; clear n0_ n1_ n2_ n3_ n4_ n5_; (try clear hb); (try clear hb2); (try clear hk); (try clear hi); (try clear ho0)))
                      go_ret
                      exact ⟨by first | rfl | (simp [errW_none, errW_some] <;> rfl) | (simp [*, errW_none, errW_some] <;> rfl), by repeat (first | (with_reducible first | exact HB.out | apply below_alloc | apply pw_below_drewN | apply below_drew1 | refine below_set ?_ GE235.out) | exact HB.out)⟩

/-- THE ONE PURE STATEMENT of bluebelllaw01_WordPacks: yours. -/
def bluebelllaw01_WordPacks.Pure : Prop := ∀ (a0 : ByteArray) (l1 : List Int) (a2_0 : Int) (a2_1 : Bool), a0.size ≤ 140737488351232 → l1.length ≤ maxLen → l1.length * 8 ≤ 140737488351232 → (∀ x ∈ l1, (Lit.int .i64 x).wf = true) → (Lit.int .i64 a2_0).wf = true → ∃ k, bluebelllaw01_WordPacks.f k a0 l1 a2_0 a2_1 = some true
theorem bluebelllaw01_WordPacks.walk (P : bluebelllaw01_WordPacks.Pure) (a0 : ByteArray) (a1 : Option Addr) (len1 cap1 : Nat) (z1 : List Int) (a2_0 : Int) (a2_1 : Bool) (w : World) (w0 : a0.size ≤ 140737488351232) (w1 : (a1 = none ∧ len1 = 0 ∧ cap1 = 0 ∧ z1 = []) ∨ ∃ x, a1 = some x ∧ len1 ≤ cap1 ∧ cap1 ≤ maxLen ∧ z1.length = cap1 ∧ (∀ i, i < z1.length → w.cell? (x.add i) = some (.int .i64 (z1.getD i 0))) ∧ ∀ n ∈ z1, (Lit.int .i64 n).wf = true) (y1 : len1 * 8 ≤ 140737488351232) (w2_0 : (Lit.int .i64 a2_0).wf = true) :
    Calls Try.prog 11 #[.string a0, .slice a1 len1 cap1, .agg #[.int .i64 a2_0, .bool a2_1]] w fun e w' => e = .returned (.bool true) ∧ Below w.heap.size w w' := by
  obtain ⟨l1, rfl, hr1, hm1, hw1, hc1⟩ := ReadsInt.ofRowC w1
  obtain ⟨k, h⟩ := P a0 l1 a2_0 a2_1 w0 hm1 y1 hw1 w2_0
  refine (bluebelllaw01_WordPacks.calls k a0 _ _ l1 a2_0 a2_1 true w (Kd.C_of_reads (d := (0 : Int)) (h1 := fun _ => rfl) hr1) hc1 h).mono ?_
  rintro e w' ⟨rfl, hd⟩
  exact ⟨rfl, hd⟩

end Go.Proofs.Ythllfmbdapdogaa.PWord
