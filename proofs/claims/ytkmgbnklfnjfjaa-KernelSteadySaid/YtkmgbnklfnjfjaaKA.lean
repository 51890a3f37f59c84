import Derived.Test.YtkmgbnklfnjfjaaProg
import Derived.WalkKit
import Derived.BigQuiet
import Derived.Deep.QuietTactic
import Derived.Outline
import Derived.Maps.OwnSet
import Derived.Maps.AppendAt
import Derived.WalkSpells
import Derived.WalkLawsBesides
import Derived.StillTailTactics
import Derived.Laws.EntriesVeiled
import Derived.Lib.Hide
import Derived.LaidEqlPtr
/-! What a call may touch; queues of pointers: put, first, take, ids. -/
namespace Go.Proofs.Ytkmgbnklfnjfjaa.Ker
open Go.RowKit Go.Maps

abbrev ptr (b : Nat) : Value := .pointer (some ⟨b, 0, none⟩)
theorem info84 : (Try.prog.info? 84).map (fun i => (i.zero, i.size, i.bytes)) = some (some (.pointer none), 1, 8) := by kernel_rfl
theorem info3 : (Try.prog.info? 3).map (fun i => (i.zero, i.size, i.bytes)) = some (some (.int .i64 0), 1, 8) := by kernel_rfl

/-- w' is w, but for blocks of S and new ones. -/
structure Touch (w w' : World) (S : Nat → Prop) : Prop where
  os : w'.os = w.os
  tape : w'.tape = w.tape
  output : w'.output = w.output
  size : w.heap.size ≤ w'.heap.size
  block : ∀ k, k < w.heap.size → ¬ S k → w'.heap[k]? = w.heap[k]?

theorem Touch.refl (w : World) (S : Nat → Prop) : Touch w w S := ⟨rfl, rfl, rfl, Nat.le_refl _, fun _ _ _ => rfl⟩
theorem Touch.trans {a b c : World} {S : Nat → Prop} (h : Touch a b S) (k : Touch b c S) : Touch a c S :=
  ⟨k.os.trans h.os, k.tape.trans h.tape, k.output.trans h.output, Nat.le_trans h.size k.size, fun i hi hs => (k.block i (Nat.lt_of_lt_of_le hi h.size) hs).trans (h.block i hi hs)⟩
theorem Touch.mono {a b : World} {S S' : Nat → Prop} (h : Touch a b S) (hs : ∀ k, k < a.heap.size → S k → S' k) : Touch a b S' :=
  ⟨h.os, h.tape, h.output, h.size, fun i hi hn => h.block i hi (fun h1 => hn (hs i hi h1))⟩
/-- Two steps, of which the second touches what the first may, or what is new. -/
theorem Touch.andThen {a b c : World} {S S' : Nat → Prop} (h : Touch a b S) (k : Touch b c S') (hs : ∀ i, i < a.heap.size → S' i → S i) : Touch a c S :=
  ⟨k.os.trans h.os, k.tape.trans h.tape, k.output.trans h.output, Nat.le_trans h.size k.size, fun i hi hn => (k.block i (Nat.lt_of_lt_of_le hi h.size) (fun h1 => hn (hs i hi h1))).trans (h.block i hi hn)⟩
theorem Touch.alloc (w : World) (o : Obj) (S : Nat → Prop) : Touch w (w.alloc o) S :=
  ⟨rfl, rfl, rfl, by simp, fun k hk _ => Below.heap_alloc _ _ _ hk⟩
theorem Touch.drewN (w : World) (n : Nat) (S : Nat → Prop) : Touch w (w.drewN n) S := ⟨rfl, rfl, rfl, Nat.le_refl _, fun _ _ _ => rfl⟩
theorem Touch.drew (w : World) (S : Nat → Prop) : Touch w w.drew S := ⟨rfl, rfl, rfl, Nat.le_refl _, fun _ _ _ => rfl⟩
theorem Touch.setCell (w : World) (a : Addr) (v : Value) {S : Nat → Prop} (h : S a.block) : Touch w (w.setCell a v) S :=
  ⟨rfl, rfl, rfl, by simp [World.setCell], fun k _ hn => Below.heap_setCell _ _ _ _ (fun e => hn (by rw [e]; exact h))⟩
theorem Touch.grown {w w' : World} {row : Option Nat} (h : w.grownBy w' row) : Touch w w' (fun k => some k = row) := ⟨h.os, h.tape, h.output, h.size, h.block⟩
theorem Touch.below {B : Nat} {w w' : World} {S : Nat → Prop} (h : Touch w w' S) (hb : B ≤ w.heap.size) (hs : ∀ k, S k → B ≤ k) : Below B w w' :=
  ⟨h.os, h.tape, h.output, h.size, fun k hk => h.block k (Nat.lt_of_lt_of_le hk hb) (fun h1 => by have := hs k h1; omega)⟩
theorem Touch.of_below {w w' : World} {S : Nat → Prop} (h : Below w.heap.size w w') : Touch w w' S := ⟨h.os, h.tape, h.output, h.size, fun k hk _ => h.block k hk⟩

section blocks
variable {w : World} {b : Nat} {c : Array Value} {ty : TypeId}
theorem blt {o : Obj} (h : w.heap[b]? = some o) : b < w.heap.size := (Array.getElem?_eq_some_iff.1 h).1
theorem cell_of (h : w.heap[b]? = some (.cells c ty (0, 0))) (j : Nat) : w.cell? ⟨b, j, none⟩ = c[j]? := by simp [World.cell?, h]
theorem free_of (h : w.heap[b]? = some (.cells c ty (0, 0))) (j : Nat) : w.frozen? ⟨b, j, none⟩ = false := by simp [World.frozen?, h]
theorem set_same (h : w.heap[b]? = some (.cells c ty (0, 0))) (j : Nat) (v : Value) : (w.setCell ⟨b, j, none⟩ v).heap[b]? = some (.cells (c.setIfInBounds j v) ty (0, 0)) := by
  simp [World.setCell, Array.getElem?_modify, h]
theorem set_other {b' j : Nat} {v : Value} (h : b ≠ b') : (w.setCell ⟨b', j, none⟩ v).heap[b]? = w.heap[b]? := Below.heap_setCell _ _ _ _ h
theorem alloc_old {o : Obj} (h : w.heap[b]? = some o) (o' : Obj) : (w.alloc o').heap[b]? = some o := (Below.heap_alloc _ _ _ (blt h)).trans h
theorem alloc_new (w : World) (o : Obj) : (w.alloc o).heap[w.heap.size]? = some o := by show (w.heap.push o)[w.heap.size]? = _; simp
theorem cell_lt {o : Nat} {v : Value} (h : w.cell? ⟨b, o, none⟩ = some v) : b < w.heap.size := by
  unfold World.cell? at h
  by_cases hb : b < w.heap.size
  · exact hb
  · simp [Array.getElem?_eq_none (Nat.le_of_not_lt hb)] at h
end blocks

theorem own_form {w : World} {base e sz : Nat} {v : Value} {n : Nat} {xs : List Value} (h : w.ownsRow base e sz v n xs) : ∃ a c, v = .slice a n c := by
  rcases h.2 with ⟨h1, rfl⟩ | ⟨g, cap, cur, h1, _⟩
  · exact ⟨_, _, h1⟩
  · exact ⟨_, _, h1⟩
/-- A row stays owned while its block stays. -/
theorem own_keep {w w' : World} {base e sz : Nat} {v : Value} {n : Nat} {xs : List Value} (h : w.ownsRow base e sz v n xs) (hk : ∀ g, v.ownBlock = some g → g < w.heap.size → w'.heap[g]? = w.heap[g]?) : w'.ownsRow base e sz v n xs := by
  obtain ⟨h1, h2⟩ := h
  refine ⟨h1, ?_⟩
  rcases h2 with h2 | ⟨g, cap, cur, rfl, hb, hg, h3⟩
  · exact .inl h2
  · exact .inr ⟨g, cap, cur, rfl, hb, (hk g rfl (blt hg)).trans hg, h3⟩
theorem own_block {w : World} {base e sz : Nat} {v : Value} {n : Nat} {xs : List Value} {g : Nat} (h : w.ownsRow base e sz v n xs) (hg : v.ownBlock = some g) : base ≤ g ∧ ∃ cur, w.heap[g]? = some (.cells cur e (0, 0)) := by
  rcases h.2 with ⟨rfl, _⟩ | ⟨g', cap, cur, rfl, hb, hh, h3⟩
  · simp [Value.ownBlock] at hg
  · simp [Value.ownBlock] at hg; subst hg; exact ⟨hb, cur, hh⟩

set_option maxRecDepth 100000 in
set_option maxHeartbeats 400000 in
/-- '(*queue).put': the pointer stands behind the queue. -/
theorem put_any (w : World) (base : Nat) (qb qo ty : Nat) (c : Array Value) (v : Value) (n : Nat) (xs : List Value) (x : Option Addr)
    (hq : w.heap[qb]? = some (.cells c ty (0, 0))) (hc : c[qo]? = some v) (hown : w.ownsRow base 84 1 v n xs) (hn : n ≤ 100000) (hb : base ≤ w.heap.size)
    (hne : some qb ≠ v.ownBlock) :
    Calls Try.prog 90 #[.pointer (some ⟨qb, qo, none⟩), .pointer x] w fun e w' => e = .returned (.tuple #[]) ∧ ∃ v', Touch w w' (fun k => k = qb ∨ some k = v.ownBlock) ∧ w'.heap[qb]? = some (.cells (c.setIfInBounds qo v') ty (0, 0)) ∧ w'.ownsRow base 84 1 v' (n + 1) (xs ++ [.pointer x]) ∧ (v'.ownBlock = v.ownBlock ∨ v'.ownBlock = some (w.heap.size + 1)) := by
  obtain ⟨i0, hi, hz0, hz1, hz2⟩ := info_parts info84
  obtain ⟨va, vc, rfl⟩ := own_form hown
  have hlt := blt hq
  have HQ := Lib.hid hq
  have HC := Lib.hid hc
  have hq0 : w.cell? ⟨qb, qo, none⟩ = some (.slice va n vc) := (cell_of hq qo).trans hc
  clear hq hc
  go_enter Try.func90, Try.ntmps90
  go_wp2_with (at_builtin; refine wpList_append_own_at _ rfl _ _ 72 rfl base 84 i0 (.pointer none) 1 8 Try.underlying72 hi hz0 hz1 hz2 rfl (by decide) (.slice va n vc) n xs rfl (hown.alloc _) ⟨w.heap.size, 0, none⟩ 1 1 [.pointer x] rfl rfl (cell_one_new _ _ _) (by simp [Value.oneCell']) (by unfold maxLen; omega) (by omega) (by simp; omega) ?_; intro v' w1 hown' hgrow hnil hloc; (obtain ⟨va', vc', rfl⟩ := own_form hown'); have HG := Lib.hid ((World.grownBy_alloc _ _ _).trans hgrow); have HQ1 := Lib.hid ((HG.out.block qb hlt hne).trans HQ.out); have hq1 : w1.cell? ⟨qb, qo, none⟩ = some (.slice va n vc) := (cell_of HQ1.out qo).trans HC.out; have hz1 : w1.frozen? ⟨qb, qo, none⟩ = false := free_of HQ1.out qo; have HL := Lib.hid hloc; have HO := Lib.hid hown'; clear hgrow hloc hnil hown')
  go_end0
  refine ⟨rfl, _, ((Touch.grown HG.out).mono (fun k _ h => .inr h)).andThen (Touch.setCell _ _ _ (S := fun k => k = qb) rfl) (fun i _ h => .inl h), set_same HQ1.out _ _, own_keep HO.out (fun g hg _ => set_other ?_), by simpa using HL.out⟩
  intro e
  subst e
  rcases HL.out with h | h
  · exact hne (hg ▸ h)
  · rw [hg] at h
    simp at h
    omega

theorem own_cell {w : World} {base e : Nat} {v : Value} {n : Nat} {xs : List Value} (h : w.ownsRow base e 1 v n xs) (hn : 0 < n) :
    ∃ g cap, v = .slice (some ⟨g, 0, none⟩) n cap ∧ base ≤ g ∧ n ≤ cap ∧ cap ≤ maxLen ∧ ∃ cur, w.heap[g]? = some (.cells cur e (0, 0)) ∧ cur.size = cap ∧ cur.toList.take n = xs ∧ ∀ j, j < n → w.cell? ⟨g, j, none⟩ = xs[j]? := by
  rcases h.2 with ⟨_, h0⟩ | ⟨g, cap, cur, rfl, hb, hg, h1, h2, h3, h4⟩
  · omega
  · refine ⟨g, cap, rfl, hb, h1, h2, cur, hg, by simpa using h3, by simpa using h4, fun j hj => ?_⟩
    rw [cell_of hg, ← h4]
    simp [hj]

set_option maxRecDepth 100000 in
theorem first_none (w : World) (qb qo : Nat) (a : Option Addr) (cap : Nat) (hq : w.cell? ⟨qb, qo, none⟩ = some (.slice a 0 cap)) :
    Calls Try.prog 73 #[.pointer (some ⟨qb, qo, none⟩)] w fun e w' => e = .returned (.tuple #[.pointer none, .bool false]) ∧ w = w' := by
  go_enter Try.func73, Try.ntmps73
  go_wp2
  go_ret2
  exact ⟨rfl, rfl⟩
set_option maxRecDepth 100000 in
theorem first_some (w : World) (qb qo g n cap : Nat) (x : Value) (hn : 0 < n) (hq : w.cell? ⟨qb, qo, none⟩ = some (.slice (some ⟨g, 0, none⟩) n cap)) (hx : w.cell? ⟨g, 0, none⟩ = some x) (hl : n ≤ 100000) :
    Calls Try.prog 73 #[.pointer (some ⟨qb, qo, none⟩)] w fun e w' => e = .returned (.tuple #[x, .bool true]) ∧ w = w' := by
  have h0 : (((n : Nat) : Int) == 0) = false := by simp; omega
  go_enter Try.func73, Try.ntmps73
  go_wp2
  go_ret2
  exact ⟨rfl, rfl⟩
set_option maxRecDepth 100000 in
theorem number_any (w : World) (b : Nat) (i : Int) (h : w.cell? ⟨b, 0, none⟩ = some (.int .i64 i)) :
    Calls Try.prog 33 #[ptr b] w fun e w' => e = .returned (.int .i64 i) ∧ w = w' := by
  go_enter Try.func33, Try.ntmps33
  go_wp2
  go_ret
  exact ⟨rfl, rfl⟩
/-- A packet's block: seven cells. -/
def isPack (w : World) (b : Nat) : Prop := ∃ c, w.heap[b]? = some (.cells c 44 (0, 0))
theorem info44 : (Try.prog.info? 44).map (fun i => i.size) = some 7 := by kernel_rfl
theorem eq_pack (w : World) (a b : Nat) (ha : isPack w a) (hb : isPack w b) : (binOp .eql 84 (ptr a) (ptr b)).run Try.prog w = .ok (.bool (decide (a = b))) w := by
  obtain ⟨i, hi, hs⟩ := Option.map_eq_some_iff.1 info44
  obtain ⟨ca, ha⟩ := ha
  obtain ⟨cb, hb⟩ := hb
  by_cases h : a = b
  · subst h
    rw [run_eql_ptr_same w _ Try.underlying84 hi]
    simp
  · rw [run_eql_ptr_other w Try.underlying84 hi (by omega) (by simp) ha hb]
    simp [h]

set_option maxRecDepth 100000 in
set_option maxHeartbeats 400000 in
/-- 'slices.Index' at pointers: the first place. -/
theorem index_any (w : World) (g n cap : Nat) (bs : List Nat) (b : Nat) (hl : bs.length = n) (hn : n ≤ 100000) (hc : ∀ j, j < n → w.cell? ⟨g, j, none⟩ = (bs.map ptr)[j]?) (hp : ∀ x ∈ bs, isPack w x) (hpb : isPack w b) (k : Nat) (hk : bs[k]? = some b) (hf : ∀ j, j < k → bs[j]? ≠ some b) :
    Calls Try.prog 91 #[.slice (some ⟨g, 0, none⟩) n cap, ptr b] w fun e w' => e = .returned (.int .i64 k) ∧ w = w' := by
  have hkn : k < n := by
    rw [← hl]
    exact (List.getElem?_eq_some_iff.1 hk).1
  have HC := Lib.hid hc
  have HP := Lib.hid hp
  have HF := Lib.hid hf
  clear hc hp hf
  go_enter Try.func91, Try.ntmps91
  go_wp2
  go_loop [5, 8] (fun _ i => ∃ j : Nat, j ≤ k ∧ i = .int .i64 j) (fun _ i => (k - (intOf i).toNat))
  case atStart => exact ⟨0, Nat.zero_le _, rfl⟩
  case round =>
    obtain ⟨j, hj, rfl⟩ := hrel
    have hjn : j < n := by omega
    obtain ⟨x, hx⟩ : ∃ x, bs[j]? = some x := ⟨bs[j], List.getElem?_eq_getElem (by omega)⟩
    have hcj : w.cell? ⟨g, j, none⟩ = some (ptr x) := by rw [HC.out j hjn]; simp [hx]
    have heq := eq_pack w b x hpb (HP.out x (List.mem_of_getElem? hx))
    by_cases hjk : j = k
    · subst hjk
      obtain rfl : x = b := by simpa [hx] using hk
      simp only [decide_true] at heq
      clear hx hk
      go_wp2
      go_ret
      exact ⟨rfl, rfl⟩
    · have hxb : decide (b = x) = false := by simpa using fun e : b = x => HF.out j (by omega) (by rw [hx, e])
      rw [hxb] at heq
      clear hx hxb hk
      go_wp2
      go_round
      case rel => exact ⟨j + 1, by omega, by go_num⟩
      case measure => simp [intOf]; omega
end Go.Proofs.Ytkmgbnklfnjfjaa.Ker
