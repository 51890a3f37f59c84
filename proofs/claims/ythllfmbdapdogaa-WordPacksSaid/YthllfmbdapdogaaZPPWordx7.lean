-- Written by a program of this session (wip/p2/p2.py) on the kit's print: the machine's side of the law; nothing in it is trusted, Lean checks it.
import Derived.Test.YthllfmbdapdogaaZPPWordx0
import Derived.Test.YthllfmbdapdogaaZPPWordx5
import Derived.Test.YthllfmbdapdogaaZPPWordx6
namespace Go.Proofs.Ythllfmbdapdogaa.PWord
open Go.RowKit Go.Proofs.YthllfmbdapdogaaW.PrintWords Go.Proofs.YthllfmbdapdogaaW.PrintLast Go.Proofs.YthllfmbdapdogaaW.PrintMore
attribute [local go_sem] max2_int min2_int max_two min_two max_three min_three max_four min_four   -- for this text's walks alone
set_option linter.unusedVariables false
set_option linter.unusedSimpArgs false

/-! ### word_Pack: function 33 -/
-- GIVEN bluebell/word.Pack
-- rounds yes
-- making yes
-- deps bluebell/word.Valid bluebell/word.Words
-- imports Derived.Lib.BufferWrite Derived.Lib.SlBuf Derived.Laws.CopyOwn
-- info uint8
/-- The bytes that Pack hands on: the length, the text, zeros up to whole words of n bytes. -/
def word_Pack.row (s : ByteArray) (n : Nat) : List Int := (s.size : Int) :: (bytesOf s ++ List.replicate ((s.size + n) / n * n - 1 - s.size) 0)
def word_Pack.f (k : Nat) (a0 : ByteArray) (a1_0 : Int) (a1_1 : Bool) : Option (List Int × Int) := (word_Valid.f a1_0 a1_1).bind fun t =>
  if t = true then (if a0.size ≤ 255 then (if a1_0 = 16 then word_Words.f k (word_Pack.row a0 2) a1_0 a1_1 else if a1_0 = 24 then word_Words.f k (word_Pack.row a0 3) a1_0 a1_1 else if a1_0 = 32 then word_Words.f k (word_Pack.row a0 4) a1_0 a1_1 else none) else some ([], 2)) else some ([], 3)
theorem word_Pack.mono : ∀ a0 a1 a2 k, LeO (word_Pack.f k a0 a1 a2) (word_Pack.f (k + 1) a0 a1 a2) := by
  intro a0 a1 a2 k
  unfold word_Pack.f
  repeat' first
      | (with_reducible exact word_Words.mono _ _ _ _)
      | (with_reducible exact LeO.refl _)
      | (with_reducible exact LeO.none _)
      | (with_reducible refine LeO.ite ?_ ?_)
      | (with_reducible refine LeO.bind ?_ (fun _ => ?_))
theorem word_Pack.row_length (s : ByteArray) (n : Nat) (hn : 2 ≤ n) : (word_Pack.row s n).length = (s.size + n) / n * n := by
  unfold word_Pack.row
  have h : s.size + 1 ≤ (s.size + n) / n * n := by
    have h1 := Nat.div_add_mod (s.size + n) n
    have h2 := Nat.mod_lt (s.size + n) (show 0 < n by omega)
    rw [Nat.mul_comm] at h1
    omega
  simp only [List.length_cons, List.length_append, bytesOf_length, List.length_replicate]
  omega
theorem word_Pack.row_eq (s : ByteArray) (n m : Nat) (hm : m = (s.size + n) / n * n) (h : s.size + 1 ≤ m) :
    ((List.replicate m (0 : Int)).set 0 s.size).take 1 ++ bytesOf s ++ ((List.replicate m (0 : Int)).set 0 s.size).drop (1 + s.size) = word_Pack.row s n := by
  obtain ⟨q, rfl⟩ : ∃ q, m = q + 1 := ⟨m - 1, by omega⟩
  unfold word_Pack.row
  rw [← hm, List.replicate_succ, List.set_cons_zero, Nat.add_comm 1 s.size]
  simp
/-- A block that holds a list of numbers reads as that list. -/
theorem reads_block {w : World} {g t : Nat} {k : IntKind} {xs : List Int} (h : w.heap[g]? = some (.cells (nums k xs).toArray t (0, 0))) (hm : xs.length ≤ 9223372036854775807) : ReadsInt w k (some ⟨g, 0, none⟩) xs.length xs := by
  refine ⟨rfl, hm, fun _ => ⟨⟨g, 0, none⟩, rfl, fun j hj => ?_⟩⟩
  rw [add_plain, blk_cell h]
  simp [nums, hj]
theorem set_block {w : World} {g t : Nat} {k : IntKind} {xs : List Int} (h : w.heap[g]? = some (.cells (nums k xs).toArray t (0, 0))) (i : Nat) (x : Int) : (w.setCell ⟨g, i, none⟩ (.int k x)).heap[g]? = some (.cells (nums k (xs.set i x)).toArray t (0, 0)) := by
  rw [blk_set h i (.int k x)]
  simp [nums, List.map_set]
section
variable {P : Program} {a : Act} {ops : Array Oper} {Q : Exit → Act → World → Prop} {rest : List Oper} {o : Oper}
/-- 'make([]byte, m)' as a block that is known whole. -/
theorem make_bytes {W : World} (hgd : o.guard = none) (t e : TypeId) (x y : Operand) (ho : o.op = .makeSlice t x y) (m : Nat) (n : Int) (hn : n = m) (hx : a.eval x = .int .i64 n) (hy : a.eval y = .int .i64 n)
    (ht : P.underlying t = some (.slice e)) (hinfo : (P.info? e).map (fun i => (i.zero, i.size, i.bytes)) = some (some (.int .u8 0), 1, 1)) (hm : m ≤ 1000000)
    (h : ∀ w1, w1.heap[W.heap.size]? = some (.cells (nums .u8 (List.replicate m 0)).toArray e (0, 0)) → Below W.heap.size W w1 → wpList P ops Q rest (a.put o.dst (.slice (some ⟨W.heap.size, 0, none⟩) m m)) w1) : wpList P ops Q (o :: rest) a W := by
  subst hn
  obtain ⟨i0, hi, hzz⟩ := Option.map_eq_some_iff.1 hinfo
  simp only [Prod.mk.injEq] at hzz
  obtain ⟨hz0, hz1, hz2⟩ := hzz
  have hr := run_make (P := P) W t e i0 (.int .u8 0) ht hi hz0 .i64 .i64 (m : Int) (m : Int) (by omega) (by omega) (by rw [hz2]; omega) (by omega)
  simp only [Int.toNat_natCast] at hr
  rw [hz1, Nat.mul_one] at hr
  refine Kd.event_run hgd (v := .slice (some ⟨W.heap.size, 0, none⟩) m m) (w1 := W.alloc (.cells (madeCells (Value.int .u8 0).cells m) e)) ?_ (h _ ?_ ((Below.refl _ _).alloc (Nat.le_refl _) _))
  · simp [execOp, ho, hx, hy, hr]
  · rw [heap_alloc_new]
    simp only [Option.some.injEq, Obj.cells.injEq, and_true]
    apply Array.ext'
    simp [madeCells, nums, Value.cells]
    apply List.ext_getElem
    · simp
    · intro i h1 h2; simp [Nat.mod_one]
/-- 'copy(b[1:], s)' into a block that is known whole. -/
theorem copy_text {W : World} (hgd : o.guard = none) (d x : Operand) (dT sT e : TypeId) (ho : o.op = .call { callee := .builtin .copy, args := #[d, x], argTypes := #[dT, sT] }) (g dl dc : Nat) (s : ByteArray)
    (hd : a.eval d = .slice (some ⟨g, 1, none⟩) dl dc) (hx : a.eval x = .string s) (hu : P.underlying dT = some (.slice e)) (hs : (P.info? e).map (·.size) = some 1) (xs : List Int) (t : TypeId)
    (hg : W.heap[g]? = some (.cells (nums .u8 xs).toArray t (0, 0))) (hle : s.size ≤ dl) (hfit : 1 + s.size ≤ xs.length)
    (h : ∀ w1, w1.heap[g]? = some (.cells (nums .u8 (xs.take 1 ++ bytesOf s ++ xs.drop (1 + s.size))).toArray t (0, 0)) → (∀ b, b ≠ g → w1.heap[b]? = W.heap[b]?) → (∀ B w0, Below B w0 W → B ≤ g → Below B w0 w1) → wpList P ops Q rest (a.put o.dst (goInt s.size)) w1) : wpList P ops Q (o :: rest) a W := by
  have hr := Lib.run_copy_row_string (P := P) W dT sT o.type e g 1 dl dc s (nums .u8 xs).toArray t hu hs hg hle (by simpa [nums] using hfit)
  refine Lib.wpList_copy_run W hgd d x dT sT ho _ _ hd hx hr (h _ ?_ (fun b hb => ?_) (fun B w0 hb hB => below_setRow hb hB _))
  · rw [setRow_heap W g _ _ t _ hg]
    simp [nums, bytesOf, Lib.byteCells, List.map_take, List.map_drop]
  · exact setRow_other W g b _ hb
end
theorem first_zero {m : Nat} (h : 0 < m) : (nums .u8 (List.replicate m 0)).toArray[0]? = some (.int .u8 0) := by
  obtain ⟨m, rfl⟩ : ∃ q, m = q + 1 := ⟨m - 1, by omega⟩
  simp [nums, List.replicate_succ]
set_option maxHeartbeats 1000000 in
theorem word_Pack.go2 (k : Nat) (a0 : ByteArray) (a1_1 : Bool) (r1 : List Int) (r2 : Int) (w : World) (hs : a0.size ≤ 255) (hV0 : word_Valid.f 16 a1_1 = some true) (hW0 : word_Words.f k (word_Pack.row a0 2) 16 a1_1 = some (r1, r2)) :
    Calls Try.prog 33 #[.string a0, .agg #[.int .i64 16, .bool a1_1]] w fun e w' => ∃ v0_ : Value, e = .returned (.tuple #[v0_, .int .i64 r2]) ∧ Kd.R (Kd.int .i64) 3 w' w.heap.size (fun _ => True) v0_ r1 ∧ Below w.heap.size w w' := by
  have HB := Aside0.mk (Below.refl w.heap.size w)
  have hV := Aside0.mk hV0
  have hW := Aside0.mk hW0
  clear hV0 hW0
  have hszb : (a0.size : Int) ≤ 255 := by omega
  have hL : ((a0.size + 2) / 2 * 2 : Nat) ≤ 260 := by
    have h1 := Nat.div_mul_le_self (a0.size + 2) 2
    omega
  obtain ⟨m, hm⟩ : ∃ m : Nat, m = (a0.size + 2) / 2 * 2 := ⟨_, rfl⟩
  have hm1 : a0.size + 1 ≤ m := by omega
  have hm3 : 1 < m := by omega
  have hm4 : ¬ m = 1 := by omega
  have hm2 : m ≤ 260 := by omega
  have hmi : ((a0.size : Int) + 1 + 2 - 1) / 2 * 2 = (m : Int) := by omega
  have HMI := Aside0.mk hmi
  have HM := Aside0.mk hm
  have HLEN := Aside0.mk ((word_Pack.row_length a0 2 (by omega)).trans hm.symm)
  clear hmi hm hL
  go_enter Try.func33, Try.ntmps33
  go_wp2_with (first | ((with_reducible refine gate_dst (N := 3) rfl ?_); refine box_event ?hg (N := 3) ?hd (cs := #[.int .i64 16, .bool a1_1]) (t := 37) ?hr ?_; (case hd => rfl); (case hg => rfl); (case hr => first | (go_simp; done) | (go_simp; rfl)); intro gb hg w2 hbox hb; have n0_ := Aside0.mk (below_step (by repeat (first | (with_reducible first | exact HB.out | apply below_alloc | apply pw_below_drewN | apply below_drew1) | exact HB.out)) hb); have n1_ := Aside0.mk (hbox); have n2_ := Aside0.mk ((by rw [hg]; exact (below_size (by repeat (first | (with_reducible first | exact HB.out | apply below_alloc | apply pw_below_drewN | apply below_drew1) | exact HB.out))) : w.heap.size ≤ gb)); clear HB; have HB := n0_; have BK := n1_; have GE := n2_; clear n0_ n1_ n2_; clear hb hbox hg; have hcz2_0 : w2.cell? ⟨gb, 0, none⟩ = some (.int .i64 16) := (blk_cell BK.out 0).trans rfl; have hcz2_1 : w2.cell? ⟨gb, 1, none⟩ = some (.bool a1_1) := (blk_cell BK.out 1).trans rfl) | (go_at_call 25; (with_reducible refine (word_Valid.calls 16 a1_1 true _ hV.out).mono ?_); rintro e w3 ⟨rfl, hb⟩; have n0_ := Aside0.mk (blk_below (g := gb) (o := .cells #[.int .i64 16, .bool a1_1] 37 (0, 0)) (by (with_reducible repeat (first | refine blk_drewN ?_ _ | refine blk_drew ?_ | refine blk_alloc ?_ _)); exact BK.out) hb); have n1_ := Aside0.mk (below_step (by repeat (first | (with_reducible first | exact HB.out | apply below_alloc | apply pw_below_drewN | apply below_drew1 | refine below_set ?_ GE.out) | exact HB.out)) hb); clear BK; clear HB; have BK := n0_; have HB := n1_; clear n0_ n1_; clear hb; have hcz3_0 : w3.cell? ⟨gb, 0, none⟩ = some (.int .i64 16) := (blk_cell BK.out 0).trans rfl; have hcz3_1 : w3.cell? ⟨gb, 1, none⟩ = some (.bool a1_1) := (blk_cell BK.out 1).trans rfl) | ((with_reducible refine gate_dst (N := 27) rfl ?_); refine make_bytes rfl 51 5 _ _ rfl m _ HMI.out rfl rfl Try.underlying51 info5 (by omega) ?_; intro w4 hg4 hb; have n0_ := Aside0.mk (blk_below BK.out hb); have n1_ := Aside0.mk (below_step HB.out hb); have GG := Aside0.mk hg4; have GM := Aside0.mk (below_size HB.out); have HGB := Aside0.mk (Nat.ne_of_lt (blk_lt BK.out)); clear BK HB hb hg4; have BK := n0_; have HB := n1_; clear n0_ n1_; have hc4 : w4.cell? ⟨w3.heap.size, 0, none⟩ = some (.int .u8 0) := (blk_cell GG.out 0).trans (first_zero (by omega)); have hf4 : w4.frozen? ⟨w3.heap.size, 0, none⟩ = false := blk_frozen GG.out 0) | (refine copy_text rfl _ _ 51 9 5 rfl w3.heap.size _ _ a0 rfl rfl Try.underlying51 (by kernel_rfl) ((List.replicate m (0 : Int)).set 0 a0.size) 5 (set_block GG.out 0 _) (by omega) (by simp; omega) ?_; intro w5 hg5 hk5 hb5; have n0_ := Aside0.mk hg5; have n1_ := Aside0.mk ((hk5 gb HGB.out).trans (blk_far BK.out HGB.out _)); have n2_ := Aside0.mk (hb5 w.heap.size w (below_set HB.out GM.out) GM.out); clear hg5 hk5 hb5 BK HB GG; have GG := n0_; have BK := n1_; have HB := n2_; clear n0_ n1_ n2_; have hcz5_0 : w5.cell? ⟨gb, 0, none⟩ = some (.int .i64 16) := (blk_cell BK.out 0).trans rfl; have hcz5_1 : w5.cell? ⟨gb, 1, none⟩ = some (.bool a1_1) := (blk_cell BK.out 1).trans rfl) | (go_at_call 40; have RO := GG.out; rw [word_Pack.row_eq a0 2 m HM.out hm1] at RO; have hC := word_Words.calls k (some ⟨w3.heap.size, 0, none⟩) m (word_Pack.row a0 2) 16 a1_1 r1 r2 w5 (Kd.C_of_reads (d := (0 : Int)) (h1 := fun _ => rfl) (reads_block RO (by rw [HLEN.out]; omega))) (by rw [HLEN.out]; omega) hW.out; rw [HLEN.out] at hC; (with_reducible refine hC.mono ?_); clear hC RO; rintro e w6 ⟨v6, rfl, hR, hb⟩; have n0_ := Aside0.mk (Kd.R_lower hR (below_size HB.out)); have n1_ := Aside0.mk (below_step HB.out hb); clear hR hb HB; have HR := n0_; have HB := n1_; clear n0_ n1_))
  go_ret2
  exact ⟨_, rfl, HR.out, HB.out⟩

set_option maxHeartbeats 1000000 in
theorem word_Pack.go3 (k : Nat) (a0 : ByteArray) (a1_1 : Bool) (r1 : List Int) (r2 : Int) (w : World) (hs : a0.size ≤ 255) (hV0 : word_Valid.f 24 a1_1 = some true) (hW0 : word_Words.f k (word_Pack.row a0 3) 24 a1_1 = some (r1, r2)) :
    Calls Try.prog 33 #[.string a0, .agg #[.int .i64 24, .bool a1_1]] w fun e w' => ∃ v0_ : Value, e = .returned (.tuple #[v0_, .int .i64 r2]) ∧ Kd.R (Kd.int .i64) 3 w' w.heap.size (fun _ => True) v0_ r1 ∧ Below w.heap.size w w' := by
  have HB := Aside0.mk (Below.refl w.heap.size w)
  have hV := Aside0.mk hV0
  have hW := Aside0.mk hW0
  clear hV0 hW0
  have hszb : (a0.size : Int) ≤ 255 := by omega
  have hL : ((a0.size + 3) / 3 * 3 : Nat) ≤ 260 := by
    have h1 := Nat.div_mul_le_self (a0.size + 3) 3
    omega
  obtain ⟨m, hm⟩ : ∃ m : Nat, m = (a0.size + 3) / 3 * 3 := ⟨_, rfl⟩
  have hm1 : a0.size + 1 ≤ m := by omega
  have hm3 : 1 < m := by omega
  have hm4 : ¬ m = 1 := by omega
  have hm2 : m ≤ 260 := by omega
  have hmi : ((a0.size : Int) + 1 + 3 - 1) / 3 * 3 = (m : Int) := by omega
  have HMI := Aside0.mk hmi
  have HM := Aside0.mk hm
  have HLEN := Aside0.mk ((word_Pack.row_length a0 3 (by omega)).trans hm.symm)
  clear hmi hm hL
  go_enter Try.func33, Try.ntmps33
  go_wp2_with (first | ((with_reducible refine gate_dst (N := 3) rfl ?_); refine box_event ?hg (N := 3) ?hd (cs := #[.int .i64 24, .bool a1_1]) (t := 37) ?hr ?_; (case hd => rfl); (case hg => rfl); (case hr => first | (go_simp; done) | (go_simp; rfl)); intro gb hg w2 hbox hb; have n0_ := Aside0.mk (below_step (by repeat (first | (with_reducible first | exact HB.out | apply below_alloc | apply pw_below_drewN | apply below_drew1) | exact HB.out)) hb); have n1_ := Aside0.mk (hbox); have n2_ := Aside0.mk ((by rw [hg]; exact (below_size (by repeat (first | (with_reducible first | exact HB.out | apply below_alloc | apply pw_below_drewN | apply below_drew1) | exact HB.out))) : w.heap.size ≤ gb)); clear HB; have HB := n0_; have BK := n1_; have GE := n2_; clear n0_ n1_ n2_; clear hb hbox hg; have hcz2_0 : w2.cell? ⟨gb, 0, none⟩ = some (.int .i64 24) := (blk_cell BK.out 0).trans rfl; have hcz2_1 : w2.cell? ⟨gb, 1, none⟩ = some (.bool a1_1) := (blk_cell BK.out 1).trans rfl) | (go_at_call 25; (with_reducible refine (word_Valid.calls 24 a1_1 true _ hV.out).mono ?_); rintro e w3 ⟨rfl, hb⟩; have n0_ := Aside0.mk (blk_below (g := gb) (o := .cells #[.int .i64 24, .bool a1_1] 37 (0, 0)) (by (with_reducible repeat (first | refine blk_drewN ?_ _ | refine blk_drew ?_ | refine blk_alloc ?_ _)); exact BK.out) hb); have n1_ := Aside0.mk (below_step (by repeat (first | (with_reducible first | exact HB.out | apply below_alloc | apply pw_below_drewN | apply below_drew1 | refine below_set ?_ GE.out) | exact HB.out)) hb); clear BK; clear HB; have BK := n0_; have HB := n1_; clear n0_ n1_; clear hb; have hcz3_0 : w3.cell? ⟨gb, 0, none⟩ = some (.int .i64 24) := (blk_cell BK.out 0).trans rfl; have hcz3_1 : w3.cell? ⟨gb, 1, none⟩ = some (.bool a1_1) := (blk_cell BK.out 1).trans rfl) | ((with_reducible refine gate_dst (N := 27) rfl ?_); refine make_bytes rfl 51 5 _ _ rfl m _ HMI.out rfl rfl Try.underlying51 info5 (by omega) ?_; intro w4 hg4 hb; have n0_ := Aside0.mk (blk_below BK.out hb); have n1_ := Aside0.mk (below_step HB.out hb); have GG := Aside0.mk hg4; have GM := Aside0.mk (below_size HB.out); have HGB := Aside0.mk (Nat.ne_of_lt (blk_lt BK.out)); clear BK HB hb hg4; have BK := n0_; have HB := n1_; clear n0_ n1_; have hc4 : w4.cell? ⟨w3.heap.size, 0, none⟩ = some (.int .u8 0) := (blk_cell GG.out 0).trans (first_zero (by omega)); have hf4 : w4.frozen? ⟨w3.heap.size, 0, none⟩ = false := blk_frozen GG.out 0) | (refine copy_text rfl _ _ 51 9 5 rfl w3.heap.size _ _ a0 rfl rfl Try.underlying51 (by kernel_rfl) ((List.replicate m (0 : Int)).set 0 a0.size) 5 (set_block GG.out 0 _) (by omega) (by simp; omega) ?_; intro w5 hg5 hk5 hb5; have n0_ := Aside0.mk hg5; have n1_ := Aside0.mk ((hk5 gb HGB.out).trans (blk_far BK.out HGB.out _)); have n2_ := Aside0.mk (hb5 w.heap.size w (below_set HB.out GM.out) GM.out); clear hg5 hk5 hb5 BK HB GG; have GG := n0_; have BK := n1_; have HB := n2_; clear n0_ n1_ n2_; have hcz5_0 : w5.cell? ⟨gb, 0, none⟩ = some (.int .i64 24) := (blk_cell BK.out 0).trans rfl; have hcz5_1 : w5.cell? ⟨gb, 1, none⟩ = some (.bool a1_1) := (blk_cell BK.out 1).trans rfl) | (go_at_call 40; have RO := GG.out; rw [word_Pack.row_eq a0 3 m HM.out hm1] at RO; have hC := word_Words.calls k (some ⟨w3.heap.size, 0, none⟩) m (word_Pack.row a0 3) 24 a1_1 r1 r2 w5 (Kd.C_of_reads (d := (0 : Int)) (h1 := fun _ => rfl) (reads_block RO (by rw [HLEN.out]; omega))) (by rw [HLEN.out]; omega) hW.out; rw [HLEN.out] at hC; (with_reducible refine hC.mono ?_); clear hC RO; rintro e w6 ⟨v6, rfl, hR, hb⟩; have n0_ := Aside0.mk (Kd.R_lower hR (below_size HB.out)); have n1_ := Aside0.mk (below_step HB.out hb); clear hR hb HB; have HR := n0_; have HB := n1_; clear n0_ n1_))
  go_ret2
  exact ⟨_, rfl, HR.out, HB.out⟩

set_option maxHeartbeats 1000000 in
theorem word_Pack.go4 (k : Nat) (a0 : ByteArray) (a1_1 : Bool) (r1 : List Int) (r2 : Int) (w : World) (hs : a0.size ≤ 255) (hV0 : word_Valid.f 32 a1_1 = some true) (hW0 : word_Words.f k (word_Pack.row a0 4) 32 a1_1 = some (r1, r2)) :
    Calls Try.prog 33 #[.string a0, .agg #[.int .i64 32, .bool a1_1]] w fun e w' => ∃ v0_ : Value, e = .returned (.tuple #[v0_, .int .i64 r2]) ∧ Kd.R (Kd.int .i64) 3 w' w.heap.size (fun _ => True) v0_ r1 ∧ Below w.heap.size w w' := by
  have HB := Aside0.mk (Below.refl w.heap.size w)
  have hV := Aside0.mk hV0
  have hW := Aside0.mk hW0
  clear hV0 hW0
  have hszb : (a0.size : Int) ≤ 255 := by omega
  have hL : ((a0.size + 4) / 4 * 4 : Nat) ≤ 260 := by
    have h1 := Nat.div_mul_le_self (a0.size + 4) 4
    omega
  obtain ⟨m, hm⟩ : ∃ m : Nat, m = (a0.size + 4) / 4 * 4 := ⟨_, rfl⟩
  have hm1 : a0.size + 1 ≤ m := by omega
  have hm3 : 1 < m := by omega
  have hm4 : ¬ m = 1 := by omega
  have hm2 : m ≤ 260 := by omega
  have hmi : ((a0.size : Int) + 1 + 4 - 1) / 4 * 4 = (m : Int) := by omega
  have HMI := Aside0.mk hmi
  have HM := Aside0.mk hm
  have HLEN := Aside0.mk ((word_Pack.row_length a0 4 (by omega)).trans hm.symm)
  clear hmi hm hL
  go_enter Try.func33, Try.ntmps33
  go_wp2_with (first | ((with_reducible refine gate_dst (N := 3) rfl ?_); refine box_event ?hg (N := 3) ?hd (cs := #[.int .i64 32, .bool a1_1]) (t := 37) ?hr ?_; (case hd => rfl); (case hg => rfl); (case hr => first | (go_simp; done) | (go_simp; rfl)); intro gb hg w2 hbox hb; have n0_ := Aside0.mk (below_step (by repeat (first | (with_reducible first | exact HB.out | apply below_alloc | apply pw_below_drewN | apply below_drew1) | exact HB.out)) hb); have n1_ := Aside0.mk (hbox); have n2_ := Aside0.mk ((by rw [hg]; exact (below_size (by repeat (first | (with_reducible first | exact HB.out | apply below_alloc | apply pw_below_drewN | apply below_drew1) | exact HB.out))) : w.heap.size ≤ gb)); clear HB; have HB := n0_; have BK := n1_; have GE := n2_; clear n0_ n1_ n2_; clear hb hbox hg; have hcz2_0 : w2.cell? ⟨gb, 0, none⟩ = some (.int .i64 32) := (blk_cell BK.out 0).trans rfl; have hcz2_1 : w2.cell? ⟨gb, 1, none⟩ = some (.bool a1_1) := (blk_cell BK.out 1).trans rfl) | (go_at_call 25; (with_reducible refine (word_Valid.calls 32 a1_1 true _ hV.out).mono ?_); rintro e w3 ⟨rfl, hb⟩; have n0_ := Aside0.mk (blk_below (g := gb) (o := .cells #[.int .i64 32, .bool a1_1] 37 (0, 0)) (by (with_reducible repeat (first | refine blk_drewN ?_ _ | refine blk_drew ?_ | refine blk_alloc ?_ _)); exact BK.out) hb); have n1_ := Aside0.mk (below_step (by repeat (first | (with_reducible first | exact HB.out | apply below_alloc | apply pw_below_drewN | apply below_drew1 | refine below_set ?_ GE.out) | exact HB.out)) hb); clear BK; clear HB; have BK := n0_; have HB := n1_; clear n0_ n1_; clear hb; have hcz3_0 : w3.cell? ⟨gb, 0, none⟩ = some (.int .i64 32) := (blk_cell BK.out 0).trans rfl; have hcz3_1 : w3.cell? ⟨gb, 1, none⟩ = some (.bool a1_1) := (blk_cell BK.out 1).trans rfl) | ((with_reducible refine gate_dst (N := 27) rfl ?_); refine make_bytes rfl 51 5 _ _ rfl m _ HMI.out rfl rfl Try.underlying51 info5 (by omega) ?_; intro w4 hg4 hb; have n0_ := Aside0.mk (blk_below BK.out hb); have n1_ := Aside0.mk (below_step HB.out hb); have GG := Aside0.mk hg4; have GM := Aside0.mk (below_size HB.out); have HGB := Aside0.mk (Nat.ne_of_lt (blk_lt BK.out)); clear BK HB hb hg4; have BK := n0_; have HB := n1_; clear n0_ n1_; have hc4 : w4.cell? ⟨w3.heap.size, 0, none⟩ = some (.int .u8 0) := (blk_cell GG.out 0).trans (first_zero (by omega)); have hf4 : w4.frozen? ⟨w3.heap.size, 0, none⟩ = false := blk_frozen GG.out 0) | (refine copy_text rfl _ _ 51 9 5 rfl w3.heap.size _ _ a0 rfl rfl Try.underlying51 (by kernel_rfl) ((List.replicate m (0 : Int)).set 0 a0.size) 5 (set_block GG.out 0 _) (by omega) (by simp; omega) ?_; intro w5 hg5 hk5 hb5; have n0_ := Aside0.mk hg5; have n1_ := Aside0.mk ((hk5 gb HGB.out).trans (blk_far BK.out HGB.out _)); have n2_ := Aside0.mk (hb5 w.heap.size w (below_set HB.out GM.out) GM.out); clear hg5 hk5 hb5 BK HB GG; have GG := n0_; have BK := n1_; have HB := n2_; clear n0_ n1_ n2_; have hcz5_0 : w5.cell? ⟨gb, 0, none⟩ = some (.int .i64 32) := (blk_cell BK.out 0).trans rfl; have hcz5_1 : w5.cell? ⟨gb, 1, none⟩ = some (.bool a1_1) := (blk_cell BK.out 1).trans rfl) | (go_at_call 40; have RO := GG.out; rw [word_Pack.row_eq a0 4 m HM.out hm1] at RO; have hC := word_Words.calls k (some ⟨w3.heap.size, 0, none⟩) m (word_Pack.row a0 4) 32 a1_1 r1 r2 w5 (Kd.C_of_reads (d := (0 : Int)) (h1 := fun _ => rfl) (reads_block RO (by rw [HLEN.out]; omega))) (by rw [HLEN.out]; omega) hW.out; rw [HLEN.out] at hC; (with_reducible refine hC.mono ?_); clear hC RO; rintro e w6 ⟨v6, rfl, hR, hb⟩; have n0_ := Aside0.mk (Kd.R_lower hR (below_size HB.out)); have n1_ := Aside0.mk (below_step HB.out hb); clear hR hb HB; have HR := n0_; have HB := n1_; clear n0_ n1_))
  go_ret2
  exact ⟨_, rfl, HR.out, HB.out⟩

set_option maxHeartbeats 1000000 in
theorem word_Pack.c_bad (a0 : ByteArray) (a1_0 : Int) (a1_1 : Bool) (w : World) (hV0 : word_Valid.f a1_0 a1_1 = some false) :
    Calls Try.prog 33 #[.string a0, .agg #[.int .i64 a1_0, .bool a1_1]] w fun e w' => ∃ v0_ : Value, e = .returned (.tuple #[v0_, .int .i64 3]) ∧ Kd.R (Kd.int .i64) 3 w' w.heap.size (fun _ => True) v0_ [] ∧ Below w.heap.size w w' := by
  have HB := Aside0.mk (Below.refl w.heap.size w)
  have hV := Aside0.mk hV0
  clear hV0
  go_enter Try.func33, Try.ntmps33
  go_wp2_with (first | ((with_reducible refine gate_dst (N := 3) rfl ?_); refine box_event ?hg (N := 3) ?hd (cs := #[.int .i64 a1_0, .bool a1_1]) (t := 37) ?hr ?_; (case hd => rfl); (case hg => rfl); (case hr => first | (go_simp; done) | (go_simp; rfl)); intro gb hg w2 hbox hb; have n0_ := Aside0.mk (below_step (by repeat (first | (with_reducible first | exact HB.out | apply below_alloc | apply pw_below_drewN | apply below_drew1) | exact HB.out)) hb); have n1_ := Aside0.mk (hbox); have n2_ := Aside0.mk ((by rw [hg]; exact (below_size (by repeat (first | (with_reducible first | exact HB.out | apply below_alloc | apply pw_below_drewN | apply below_drew1) | exact HB.out))) : w.heap.size ≤ gb)); clear HB; have HB := n0_; have BK := n1_; have GE := n2_; clear n0_ n1_ n2_; clear hb hbox hg; have hcz2_0 : w2.cell? ⟨gb, 0, none⟩ = some (.int .i64 a1_0) := (blk_cell BK.out 0).trans rfl; have hcz2_1 : w2.cell? ⟨gb, 1, none⟩ = some (.bool a1_1) := (blk_cell BK.out 1).trans rfl) | (go_at_call 25; (with_reducible refine (word_Valid.calls a1_0 a1_1 false _ hV.out).mono ?_); rintro e w3 ⟨rfl, hb⟩; have n0_ := Aside0.mk (blk_below (g := gb) (o := .cells #[.int .i64 a1_0, .bool a1_1] 37 (0, 0)) (by (with_reducible repeat (first | refine blk_drewN ?_ _ | refine blk_drew ?_ | refine blk_alloc ?_ _)); exact BK.out) hb); have n1_ := Aside0.mk (below_step (by repeat (first | (with_reducible first | exact HB.out | apply below_alloc | apply pw_below_drewN | apply below_drew1 | refine below_set ?_ GE.out) | exact HB.out)) hb); clear BK; clear HB; have BK := n0_; have HB := n1_; clear n0_ n1_; clear hb; have hcz3_0 : w3.cell? ⟨gb, 0, none⟩ = some (.int .i64 a1_0) := (blk_cell BK.out 0).trans rfl; have hcz3_1 : w3.cell? ⟨gb, 1, none⟩ = some (.bool a1_1) := (blk_cell BK.out 1).trans rfl))
  go_ret2
  exact ⟨_, rfl, Kd.R_nil _ _ _ _ _, HB.out⟩
set_option maxHeartbeats 1000000 in
theorem word_Pack.c_long (a0 : ByteArray) (a1_0 : Int) (a1_1 : Bool) (w : World) (hs : 255 < a0.size) (hV0 : word_Valid.f a1_0 a1_1 = some true) :
    Calls Try.prog 33 #[.string a0, .agg #[.int .i64 a1_0, .bool a1_1]] w fun e w' => ∃ v0_ : Value, e = .returned (.tuple #[v0_, .int .i64 2]) ∧ Kd.R (Kd.int .i64) 3 w' w.heap.size (fun _ => True) v0_ [] ∧ Below w.heap.size w w' := by
  have HB := Aside0.mk (Below.refl w.heap.size w)
  have hV := Aside0.mk hV0
  clear hV0
  have hs1 : decide (255 < (a0.size : Int)) = true := decide_eq_true (by omega)
  go_enter Try.func33, Try.ntmps33
  go_wp2_with (first | ((with_reducible refine gate_dst (N := 3) rfl ?_); refine box_event ?hg (N := 3) ?hd (cs := #[.int .i64 a1_0, .bool a1_1]) (t := 37) ?hr ?_; (case hd => rfl); (case hg => rfl); (case hr => first | (go_simp; done) | (go_simp; rfl)); intro gb hg w2 hbox hb; have n0_ := Aside0.mk (below_step (by repeat (first | (with_reducible first | exact HB.out | apply below_alloc | apply pw_below_drewN | apply below_drew1) | exact HB.out)) hb); have n1_ := Aside0.mk (hbox); have n2_ := Aside0.mk ((by rw [hg]; exact (below_size (by repeat (first | (with_reducible first | exact HB.out | apply below_alloc | apply pw_below_drewN | apply below_drew1) | exact HB.out))) : w.heap.size ≤ gb)); clear HB; have HB := n0_; have BK := n1_; have GE := n2_; clear n0_ n1_ n2_; clear hb hbox hg; have hcz2_0 : w2.cell? ⟨gb, 0, none⟩ = some (.int .i64 a1_0) := (blk_cell BK.out 0).trans rfl; have hcz2_1 : w2.cell? ⟨gb, 1, none⟩ = some (.bool a1_1) := (blk_cell BK.out 1).trans rfl) | (go_at_call 25; (with_reducible refine (word_Valid.calls a1_0 a1_1 true _ hV.out).mono ?_); rintro e w3 ⟨rfl, hb⟩; have n0_ := Aside0.mk (blk_below (g := gb) (o := .cells #[.int .i64 a1_0, .bool a1_1] 37 (0, 0)) (by (with_reducible repeat (first | refine blk_drewN ?_ _ | refine blk_drew ?_ | refine blk_alloc ?_ _)); exact BK.out) hb); have n1_ := Aside0.mk (below_step (by repeat (first | (with_reducible first | exact HB.out | apply below_alloc | apply pw_below_drewN | apply below_drew1 | refine below_set ?_ GE.out) | exact HB.out)) hb); clear BK; clear HB; have BK := n0_; have HB := n1_; clear n0_ n1_; clear hb; have hcz3_0 : w3.cell? ⟨gb, 0, none⟩ = some (.int .i64 a1_0) := (blk_cell BK.out 0).trans rfl; have hcz3_1 : w3.cell? ⟨gb, 1, none⟩ = some (.bool a1_1) := (blk_cell BK.out 1).trans rfl))
  go_ret2
  exact ⟨_, rfl, Kd.R_nil _ _ _ _ _, HB.out⟩
theorem word_Pack.calls (k : Nat) (a0 : ByteArray) (a1_0 : Int) (a1_1 : Bool) (r1 : List Int) (r2 : Int) (w : World) (h : word_Pack.f k a0 a1_0 a1_1 = some (r1, r2)) :
    Calls Try.prog 33 #[.string a0, .agg #[.int .i64 a1_0, .bool a1_1]] w fun e w' => ∃ v0_ : Value, e = .returned (.tuple #[v0_, .int .i64 r2]) ∧ Kd.R (Kd.int .i64) 3 w' w.heap.size (fun _ => True) v0_ r1 ∧ Below w.heap.size w w' := by
  unfold word_Pack.f at h
  obtain ⟨t, hV, h⟩ := Option.bind_eq_some_iff.mp h
  by_cases ht : t = true
  rotate_left
  · rw [if_neg ht] at h
    obtain ⟨rfl, rfl⟩ := Prod.mk.inj (Option.some.inj h)
    obtain rfl : t = false := Bool.eq_false_iff.mpr ht
    exact word_Pack.c_bad a0 a1_0 a1_1 w hV
  rw [if_pos ht] at h
  subst ht
  by_cases hs : a0.size ≤ 255
  rotate_left
  · rw [if_neg hs] at h
    obtain ⟨rfl, rfl⟩ := Prod.mk.inj (Option.some.inj h)
    exact word_Pack.c_long a0 a1_0 a1_1 w (by omega) hV
  rw [if_pos hs] at h
  by_cases c : a1_0 = 16
  · rw [if_pos c] at h
    subst c
    exact word_Pack.go2 k a0 a1_1 r1 r2 w hs hV h
  rw [if_neg c] at h
  by_cases c : a1_0 = 24
  · rw [if_pos c] at h
    subst c
    exact word_Pack.go3 k a0 a1_1 r1 r2 w hs hV h
  rw [if_neg c] at h
  by_cases c : a1_0 = 32
  · rw [if_pos c] at h
    subst c
    exact word_Pack.go4 k a0 a1_1 r1 r2 w hs hV h
  rw [if_neg c] at h
  exact absurd h (by simp)


end Go.Proofs.Ythllfmbdapdogaa.PWord
