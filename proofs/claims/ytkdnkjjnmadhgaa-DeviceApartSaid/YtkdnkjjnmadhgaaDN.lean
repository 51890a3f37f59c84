import Derived.Test.YtkdnkjjnmadhgaaDJ
set_option linter.unusedVariables false
set_option linter.unusedSimpArgs false
/-! A disk is made. -/
namespace Go.Proofs.Ytkdnkjjnmadhgaa.Dev
open Go.RowKit Go.Maps Go.Lib

theorem infoB39 : (Try.prog.info? 39).map (fun i => (i.zero, i.size, i.bytes)) = some (some (.slice none 0 0), 1, 24) := by kernel_rfl
/-- A block of zeroes. -/
def zeros : List Value := List.replicate 64 (.int .u8 0)
/-- The disk while its blocks are made. -/
def Making (B : Nat) (w wr : World) (vd : Sl) (j : Nat) : Prop :=
  ∃ (vb : Sl) (sb : List Sl), wr.heap[w.heap.size]? = some (.cells #[slv vb, .slice none 0 0, .slice none 0 0, slv vd, .int .i64 0, .int .i64 0] 106 (0, 0)) ∧
    wr.ownsRow w.heap.size 39 1 (slv vb) j (sb.map slv) ∧ sb.length = j ∧ All2 (Held B 5 wr) sb (List.replicate j zeros) ∧ Below w.heap.size w wr

theorem infoB5 : (Try.prog.info? 5).map (fun i => (i.zero, i.size, i.bytes)) = some (some (.int .u8 0), 1, 1) := by kernel_rfl
theorem make64 (w : World) : (Instr.makeSlice 39 (.int .i64 64) (.int .i64 64)).run Try.prog w = .ok (.slice (some ⟨w.heap.size, 0, none⟩) 64 64) (w.alloc (.cells zeros.toArray 5)) := by
  obtain ⟨i0, hi, hz0, hz1, hz2⟩ := info_parts infoB5
  have h := run_make (P := Try.prog) w 39 5 i0 (.int .u8 0) Try.underlying39 hi hz0 .i64 .i64 64 64 (by decide) (by decide) (by rw [hz2]; decide) (by decide)
  rw [hz1] at h
  have e : madeCells (Value.int .u8 0).cells (Int.toNat 64 * 1) = zeros.toArray := by kernel_rfl
  rw [e] at h
  exact h
set_option maxHeartbeats 2000000 in
set_option maxRecDepth 100000 in
theorem new_disk_own (w : World) (B : Nat) (n : Nat) (hn : n ≤ 256) (vd : Sl) (bad : List Int) (hd : Held B 3 w vd (ints bad)) (hB : B ≤ w.heap.size) :
    Calls Try.prog 56 #[.int .i64 n, slv vd] w fun e w' => ∃ m, e = .returned (ptr w.heap.size) ∧ Below w.heap.size w w' ∧ DRep B w' w.heap.size m ⟨List.replicate n zeros, List.replicate n zeros, [], bad, 0, 0⟩ ∧ ∀ k, OwnD w.heap.size m k → w.heap.size ≤ k := by
  have HD := Lib.hid hd
  clear hd
  go_enter Try.func56, Try.ntmps56
  go_wp2_with fail
  obtain ⟨i0, hi, hz0, hz1, hz2⟩ := info_parts infoB39
  go_loopw [10] (fun i wr => ∃ j : Nat, j ≤ n ∧ i = .int .i64 j ∧ Making B w wr vd j) (fun i _ => n - (intOf i).toNat)
  case atStart =>
    refine ⟨0, Nat.zero_le _, rfl, (none, 0, 0), [], alloc_new _ _, owns_none, rfl, All2.nil_, (Below.refl _ _).alloc (Nat.le_refl _) _⟩
  case round =>
    obtain ⟨j, hj, rfl, vb, sb, hc, hrow, hlen, hall, hbel⟩ := hrel
    by_cases hlt : j < n
    · as_aux_lemma =>
        have hdc : decide ((j : Int) < (n : Int)) = true := by simpa using hlt
        have c0 : wr.cell? ⟨w.heap.size, 0, none⟩ = some (.slice vb.1 vb.2.1 vb.2.2) := (cell_of hc 0).trans rfl
        have HC := Lib.hid hc
        have HROW := Lib.hid hrow
        have HLEN := Lib.hid hlen
        have HALL := Lib.hid hall
        have HBEL := Lib.hid hbel
        clear hc hrow hlen hall hbel
        go_upto_region 4 with (fail)
        obtain ⟨C, hCd⟩ : ∃ C : World → Prop, ∀ z, C z ↔ (z.cell? ⟨w.heap.size, 0, none⟩ = some (.slice vb.1 vb.2.1 vb.2.2)) := ⟨_, fun _ => Iff.rfl⟩
        have s0 := fun s : {z : World // C z} => (hCd s.1).1 s.2
        have hC0 := (hCd wr.drew).2 c0
        haveI : Nonempty {z : World // C z} := ⟨⟨wr.drew, hC0⟩⟩
        have q := fun (w : World) => make64 w
        refine Mix.wp_region_mix C [5, 6, 7, 10] (by kernel_rfl) (by kernel_rfl) hC0 ?_
        have HCD := Lib.hid hCd
        clear hCd hC0
        repeat (refine Mix.mix_still rfl (fun K hK => ?_); go_simp; refine hK _ ?_; clear hK K)
        refine Mix.mix_eff rfl ?_
        go_wp2_with fail
        refine ⟨(HCD.out _).2 (Lib.cell?_alloc_some (W := wr) _ c0), ?_⟩
        repeat (refine Mix.mix_still rfl (fun K hK => ?_); go_simp; refine hK _ ?_; clear hK K)
        refine Mix.mix_eff rfl ?_
        go_wp2_with fail
        refine ⟨(HCD.out _).2 (Lib.cell?_alloc_some (W := wr.alloc (.cells zeros.toArray 5)) _ (Lib.cell?_alloc_some (W := wr) _ c0)), ?_⟩
        repeat (refine Mix.mix_still rfl (fun K hK => ?_); go_simp; refine hK _ ?_; clear hK K)
        refine Mix.mix_eff rfl ?_
        obtain ⟨W2, hW2⟩ : ∃ W2, W2 = ((wr.alloc (.cells zeros.toArray 5)).alloc (.cells #[.slice (some ⟨wr.heap.size, 0, none⟩) 64 64] 39)).drew := ⟨_, rfl⟩
        have hz2w : W2.heap[wr.heap.size]? = some (.cells zeros.toArray 5 (0, 0)) := by rw [hW2]; exact alloc_old (alloc_new wr _) _
        have hn2 : W2.heap[wr.heap.size + 1]? = some (.cells #[.slice (some ⟨wr.heap.size, 0, none⟩) 64 64] 39 (0, 0)) := by
          rw [hW2]
          have := alloc_new (wr.alloc (.cells zeros.toArray 5)) (.cells #[.slice (some ⟨wr.heap.size, 0, none⟩) 64 64] 39)
          rwa [World.size_alloc] at this
        have hb2 : Below wr.heap.size wr W2 := by rw [hW2]; exact below_drewN (((Below.refl _ _).alloc (Nat.le_refl _) _).alloc (by simp) _) 1
        have hsz2 : W2.heap.size = wr.heap.size + 2 := by rw [hW2]; simp [World.drew]
        have hr2 : W2.ownsRow w.heap.size 39 1 (slv vb) j (sb.map slv) := own_keep HROW.out fun k _ hl => hb2.block k hl
        have hlo : w.heap.size ≤ W2.heap.size := by have := HBEL.out.size; have := hb2.size; omega
        rw [← hW2]
        refine wpList_append_any _ rfl _ _ 52 rfl w.heap.size 39 i0 (.slice none 0 0) 1 24 Try.underlying52 hi hz0 hz1 hz2 rfl (by decide) (slv vb) j (sb.map slv) rfl hr2 W2.heap.size (some ⟨wr.heap.size + 1, 0, none⟩) 1 1 [.slice (some ⟨wr.heap.size, 0, none⟩) 64 64] rfl ?rd ?one (by unfold maxLen; omega) (by omega) hlo ?_
        case rd => exact ⟨rfl, fun _ => ⟨_, rfl, blt hn2, fun i u hu => by rw [Addr.add_lit, Nat.zero_add, cell_of hn2]; simpa using hu⟩⟩
        case one => intro u hu; simp at hu; subst hu; rfl
        intro v' w3 hrow3 hgrow3 hloc3
        obtain ⟨A', c', rfl⟩ := own_form hrow3
        have hbl3 : ∀ k, k < wr.heap.size → (slv vb).ownBlock ≠ some k → w3.heap[k]? = wr.heap[k]? := fun k hk hne => (hgrow3.block k (Nat.lt_of_lt_of_le hk hb2.size) (fun e => hne e.symm)).trans (hb2.block k hk)
        have hnd : (slv vb).ownBlock ≠ some w.heap.size := fun e => own_ty HROW.out HC.out (by decide) e
        have hd3 := (hbl3 _ (blt HC.out) hnd).trans HC.out
        have hz3 : w3.heap[wr.heap.size]? = some (.cells zeros.toArray 5 (0, 0)) := (hgrow3.block _ (blt hz2w) (fun e => by
          have := own_lt HROW.out e.symm
          omega)).trans hz2w
        have q4 : w3.cell? ⟨w.heap.size, 0, none⟩ = some (.slice vb.1 vb.2.1 vb.2.2) := (cell_of hd3 0).trans rfl
        have qf : w3.frozen? ⟨w.heap.size, 0, none⟩ = false := free_of hd3 0
        refine wpList_nil ⟨rfl, .inr ((HCD.out _).2 q4), ?_⟩
        have HROW3 := Lib.hid hrow3
        have HGROW3 := Lib.hid hgrow3
        have HBL3 := Lib.hid hbl3
        have HD3 := Lib.hid hd3
        have HZ3 := Lib.hid hz3
        have HB2 := Lib.hid hb2
        have HSZ2 := Lib.hid hsz2
        clear hrow3 hgrow3 hbl3 hd3 hz3 hb2 hsz2 hr2 hlo hn2 hz2w hW2 hnd hloc3 c0
        repeat (refine Mix.mix_still rfl (fun K hK => ?_); go_simp; refine hK _ ?_; clear hK K)
        refine Mix.mix_eff rfl ?_
        go_wp2_with fail
        refine Mix.mix_nil ?_
        go_wp2_with fail
        go_roundw
        case rel =>
          refine ⟨j + 1, hlt, by go_num, (A', j + 1, c'), sb ++ [(some ⟨wr.heap.size, 0, none⟩, 64, 64)], ?_, ?_, ?_, ?_, ?_⟩
          · have := set_same HD3.out 0 (slv (A', j + 1, c'))
            simpa using this
          · have e1 : (sb ++ [((some ⟨wr.heap.size, 0, none⟩, 64, 64) : Sl)]).map slv = sb.map slv ++ [.slice (some ⟨wr.heap.size, 0, none⟩) 64 64] := by simp
            rw [e1]
            refine own_keep HROW3.out fun k hk _ => Below.heap_setCell w3 _ _ _ (fun e => ?_)
            subst e
            exact own_ty HROW3.out HD3.out (by decide) hk
          · simp [HLEN.out]
          · rw [List.replicate_succ']
            have hkk : ∀ k, k < wr.heap.size → (k < B ∨ ∃ cur, wr.heap[k]? = some (.cells cur 5 (0, 0))) → (w3.setCell ⟨w.heap.size, 0, none⟩ (slv (A', j + 1, c'))).heap[k]? = wr.heap[k]? := by
              intro k hk ho
              refine (Below.heap_setCell w3 _ _ _ (fun e => ?_)).trans (HBL3.out k hk (fun e => ?_))
              · have e : k = w.heap.size := e
                subst e
                rcases ho with ho | ⟨cur, ho⟩
                · omega
                · rw [HC.out] at ho
                  simp at ho
              · rcases ho with ho | ⟨cur, ho⟩
                · have := (own_block HROW.out e).1
                  omega
                · exact own_ty HROW.out ho (by decide) e
            refine All2.snoc (HALL.out.mono fun _ _ hh => hh.keep hkk) ⟨rfl, fun u hu => ?_, fun _ => ⟨wr.heap.size, 0, rfl, .inr ⟨_, (Below.heap_setCell w3 _ _ _ (fun e => ?_)).trans HZ3.out⟩, fun i u hu => ?_⟩⟩
            · simp [zeros] at hu
              subst hu; rfl
            · have e : wr.heap.size = w.heap.size := e
              have := blt HC.out
              omega
            · have hne : wr.heap.size ≠ w.heap.size := by have := blt HC.out; omega
              rw [cell_of ((Below.heap_setCell w3 ⟨w.heap.size, 0, none⟩ _ _ hne).trans HZ3.out), Nat.zero_add, List.getElem?_toArray]
              exact hu
          · have ht3 : Touch wr w3 (fun k => (slv vb).ownBlock = some k) := (Touch.of_below HB2.out).trans ((Touch.grown HGROW3.out).mono fun k _ e => e.symm)
            refine HBEL.out.trans ((ht3.below HBEL.out.size (fun k hk => (own_block HROW.out hk).1)).setCell ?_ _)
            exact Nat.le_refl _
        case measure => simp [intOf, wrap64]; omega
    · have hjn : j = n := by omega
      subst hjn
      as_aux_lemma =>
        have hdc : decide ((j : Int) < (j : Int)) = false := by simp
        have c0 : wr.cell? ⟨w.heap.size, 0, none⟩ = some (.slice vb.1 vb.2.1 vb.2.2) := (cell_of hc 0).trans rfl
        have hvn : vb.2.1 = j := by
          obtain ⟨a, c, e⟩ := own_form hrow
          injection e
        have hone : ∀ u ∈ sb.map slv, u.oneCell' = true := fun u hu => by
          obtain ⟨x, _, rfl⟩ := List.mem_map.1 hu
          rfl
        have hrd : Reads wr wr.heap.size 1 vb.1 vb.2.1 (sb.map slv) := by
          have h1 := hrow
          rw [← hvn] at h1
          exact Reads.of_own h1
        have C48 := Lib.hid (clone_rows wr wr.heap.size vb.1 vb.2.1 vb.2.2 (sb.map slv) hrd (Nat.le_refl _) hone (by omega))
        have HC := Lib.hid hc
        have HROW := Lib.hid hrow
        have HLEN := Lib.hid hlen
        have HALL := Lib.hid hall
        have HBEL := Lib.hid hbel
        have HVN := Lib.hid hvn
        have HDL := Lib.hid (blt hc)
        clear hc hrow hlen hall hbel hvn hrd hone
        go_wp2_with (go_at_call 48; (refine (C48.out).mono ?_); rintro e w4 ⟨v4, rfl, hb4, hr4⟩; (obtain ⟨A4, c4, rfl⟩ := own_form hr4); have hc4 := (hb4.block _ HDL.out).trans HC.out; have qf : w4.frozen? ⟨w.heap.size, 1, none⟩ = false := free_of hc4 1; have q1 : w4.cell? ⟨w.heap.size, 1, none⟩ = some (.slice none 0 0) := (cell_of hc4 1).trans rfl; have HC4 := Lib.hid hc4; have HB4 := Lib.hid hb4; have HR4 := Lib.hid hr4; clear hc4 hb4 hr4)
        go_ret
        have hvn := HVN.out
        have hcd := set_same HC4.out 1 (.slice A4 vb.2.1 c4)
        have hdl := HDL.out
        have hkk : ∀ k, k < wr.heap.size → k ≠ w.heap.size → (w4.setCell ⟨w.heap.size, 1, none⟩ (.slice A4 vb.2.1 c4)).heap[k]? = wr.heap[k]? := fun k hk hne => (Below.heap_setCell w4 _ _ _ hne).trans (HB4.out.block k hk)
        have hst : ∀ k, k < wr.heap.size → (k < B ∨ ∃ cur, wr.heap[k]? = some (.cells cur 5 (0, 0))) → (w4.setCell ⟨w.heap.size, 1, none⟩ (.slice A4 vb.2.1 c4)).heap[k]? = wr.heap[k]? := fun k hk ho => hkk k hk (fun e => by
          subst e
          rcases ho with ho | ⟨cur, ho⟩
          · omega
          · rw [HC.out] at ho
            simp at ho)
        have hbel : Below w.heap.size w (w4.setCell ⟨w.heap.size, 1, none⟩ (.slice A4 vb.2.1 c4)) := (HBEL.out.trans (HB4.out.mono HBEL.out.size)).setCell (Nat.le_refl _) _
        refine ⟨⟨vb, (A4, vb.2.1, c4), (none, 0, 0), vd, sb, sb, []⟩, rfl, hbel, ⟨hB, ?_, ?_, ?_, owns_none, ?_, HALL.out.mono fun _ _ hh => hh.keep hst, HALL.out.mono fun _ _ hh => hh.keep hst, All2.nil_, HD.out.below hbel⟩, ?_⟩
        · simpa using hcd
        · refine own_base (B := B) (B' := w.heap.size) (own_keep (w := wr) ?_ fun k hk hl => hkk k hl (fun e => ?_)) hB
          · rw [HLEN.out]; exact HROW.out
          · subst e
            exact own_ty HROW.out HC.out (by decide) hk
        · refine own_base (own_keep (w := w4) (base := wr.heap.size) ?_ fun k hk hl => Below.heap_setCell w4 _ _ _ (fun e => ?_)) (by omega)
          · rw [HLEN.out, ← hvn]; exact HR4.out
          · have e : k = w.heap.size := e
            subst e
            exact own_ty HR4.out HC4.out (by decide) hk
        · intro g hg hg2
          have h1 := own_lt HROW.out hg
          have h2 := (own_block HR4.out hg2).1
          omega
        · intro k hk
          rcases hk with rfl | hk | hk | hk
          · exact Nat.le_refl _
          · exact (own_block HROW.out hk).1
          · have := (own_block HR4.out hk).1
            omega
          · simp [slv, Value.ownBlock] at hk
theorem new_disk (w : World) (B : Nat) (n : Nat) (hn : n ≤ 256) (vd : Sl) (bad : List Int) (hd : Held B 3 w vd (ints bad)) (hB : B ≤ w.heap.size) :
    Calls Try.prog 56 #[.int .i64 n, slv vd] w fun e w' => ∃ m, e = .returned (ptr w.heap.size) ∧ Below w.heap.size w w' ∧ DRep B w' w.heap.size m ⟨List.replicate n zeros, List.replicate n zeros, [], bad, 0, 0⟩ :=
  (new_disk_own w B n hn vd bad hd hB).mono fun _ _ ⟨m, h1, h2, h3, _⟩ => ⟨m, h1, h2, h3⟩
end Go.Proofs.Ytkdnkjjnmadhgaa.Dev
