import Derived.Test.YtkdnkjjnmadhgaaHI
import Derived.Test.YtkdnkjjnmadhgaaHJ
set_option linter.unusedVariables false
set_option linter.unusedSimpArgs false
/-! A device of any kind is built. -/
namespace Go.Proofs.Ytkdnkjjnmadhgaa.Dev
open Go.RowKit Go.Maps Go.Lib

/-- What a device is to be, in memory. -/
abbrev cfgV (k n : Int) (vb vt vy vl : Sl) : Value := .agg #[.int .i64 k, .int .i64 n, slv vb, slv vt, slv vy, slv vl]
set_option maxHeartbeats 2000000 in
set_option maxRecDepth 100000 in
/-- What belongs to another kind is refused. -/
theorem build_refuse (w : World) (k n : Int) (Ab At Ay Al : Option Addr) (nb cb nt ct ny cy nl cl : Nat) (ht : nt ≤ 100000) (hy : ny ≤ 100000)
    (h : (k ≠ 3 ∧ 0 < nt + ny) ∨ (k ≠ 2 ∧ ¬ (n = 0 ∧ nb = 0)) ∨ (k ≠ 4 ∧ 0 < nl)) :
    Calls Try.prog 35 #[cfgV k n (Ab, nb, cb) (At, nt, ct) (Ay, ny, cy) (Al, nl, cl)] w fun e w' => e = .returned .nilIface ∧ Below w.heap.size w w' := by
  have hb : Below w.heap.size w (w.alloc (.cells #[.int .i64 k, .int .i64 n, .slice Ab nb cb, .slice At nt ct, .slice Ay ny cy, .slice Al nl cl] 54)) := (Below.refl _ _).alloc (Nat.le_refl _) _
  have HB := Lib.hid hb
  have kw : IntKind.i64.wrap ((nt : Int) + (ny : Int)) = (nt : Int) + (ny : Int) := by rw [IntKind.wrap_i64]; omega
  clear hb
  have hnone : ((n == 0) = false) ∨ ((n == 0) = true ∧ ((nb : Int) == 0) = false) ∨ ((n == 0) = true ∧ ((nb : Int) == 0) = true) := by
    cases (n == 0) <;> cases ((nb : Int) == 0) <;> simp
  by_cases c1 : k ≠ 3 ∧ 0 < nt + ny
  · have d1 : (k != 3) = true := by simpa using c1.1
    have d2 : decide (0 < (nt : Int) + (ny : Int)) = true := by simp; omega
    clear h c1 ht hy
    rcases hnone with a | ⟨a, b⟩ | ⟨a, b⟩
    · (go_enter Try.func35, Try.ntmps35; go_wp2_with fail; go_ret; exact ⟨rfl, HB.out⟩)
    · (go_enter Try.func35, Try.ntmps35; go_wp2_with fail; go_ret; exact ⟨rfl, HB.out⟩)
    · (go_enter Try.func35, Try.ntmps35; go_wp2_with fail; go_ret; exact ⟨rfl, HB.out⟩)
  · have h2 := h.resolve_left c1
    have h3 : ((k != 3) = false) ∨ ((k != 3) = true ∧ decide (0 < (nt : Int) + (ny : Int)) = false) := by
      by_cases e : k = 3
      · exact .inl (by simpa using e)
      · refine .inr ⟨by simpa using e, ?_⟩
        have : ¬ 0 < nt + ny := fun hh => c1 ⟨e, hh⟩
        simp; omega
    by_cases c2 : k ≠ 2 ∧ ¬ (n = 0 ∧ nb = 0)
    · have d2 : (k != 2) = true := by simpa using c2.1
      have hn2 : ((n == 0) = false) ∨ ((n == 0) = true ∧ ((nb : Int) == 0) = false) := by
        rcases hnone with a | ⟨a, b⟩ | ⟨a, b⟩
        · exact .inl a
        · exact .inr ⟨a, b⟩
        · refine absurd ⟨?_, ?_⟩ c2.2
          · simpa using a
          · have : (nb : Int) = 0 := by simpa using b
            omega
      clear h h2 c1 c2 hnone ht hy
      rcases h3 with e | ⟨e, f⟩
      · rcases hn2 with a | ⟨a, b⟩
        · (go_enter Try.func35, Try.ntmps35; go_wp2_with fail; go_ret; exact ⟨rfl, HB.out⟩)
        · (go_enter Try.func35, Try.ntmps35; go_wp2_with fail; go_ret; exact ⟨rfl, HB.out⟩)
      · rcases hn2 with a | ⟨a, b⟩
        · (go_enter Try.func35, Try.ntmps35; go_wp2_with fail; go_ret; exact ⟨rfl, HB.out⟩)
        · (go_enter Try.func35, Try.ntmps35; go_wp2_with fail; go_ret; exact ⟨rfl, HB.out⟩)
    · have c3 := h2.resolve_left c2
      have d4 : (k != 4) = true := by simpa using c3.1
      have d5 : decide (0 < (nl : Int)) = true := by simpa using c3.2
      have d6 : 0 < nl := c3.2
      have d7 : decide (0 < nl) = true := by simpa using c3.2
      have h4 : ((k != 2) = false) ∨ ((k != 2) = true ∧ (n == 0) = true ∧ ((nb : Int) == 0) = true) := by
        by_cases e : k = 2
        · exact .inl (by simpa using e)
        · refine .inr ⟨by simpa using e, ?_⟩
          by_cases e2 : n = 0 ∧ nb = 0
          · rw [e2.1, e2.2]; simp
          · exact absurd ⟨e, e2⟩ c2
      clear h h2 c1 c2 c3 ht hy
      rcases h3 with e | ⟨e, f⟩
      · have hk3 : k = 3 := by simpa using e
        subst hk3
        rcases h4 with g | ⟨g, a, b⟩
        · simp at g
        · clear hnone
          (go_enter Try.func35, Try.ntmps35; go_wp2_with fail; go_ret; exact ⟨rfl, HB.out⟩)
      · rcases h4 with g | ⟨g, a, b⟩
        · rcases hnone with a | ⟨a, b⟩ | ⟨a, b⟩
          · (go_enter Try.func35, Try.ntmps35; go_wp2_with fail; go_ret; exact ⟨rfl, HB.out⟩)
          · (go_enter Try.func35, Try.ntmps35; go_wp2_with fail; go_ret; exact ⟨rfl, HB.out⟩)
          · (go_enter Try.func35, Try.ntmps35; go_wp2_with fail; go_ret; exact ⟨rfl, HB.out⟩)
        · clear hnone
          (go_enter Try.func35, Try.ntmps35; go_wp2_with fail; go_ret; exact ⟨rfl, HB.out⟩)
end Go.Proofs.Ytkdnkjjnmadhgaa.Dev
/-! A device of any kind is built: what is taken. -/
namespace Go.Proofs.Ytkdnkjjnmadhgaa.Dev
open Go.RowKit Go.Maps Go.Lib

theorem Held.of_own2 {B B' : Nat} {ty : TypeId} {w : World} {A : Option Addr} {n c : Nat} {xs : List Value} (h : w.ownsRow B' ty 1 (.slice A n c) n xs) (h1 : ∀ u ∈ xs, u.oneCell' = true) : Held B ty w (A, n, c) xs ∧ n ≤ c := by
  obtain ⟨⟨a, b, d⟩, e, _, hh⟩ := Held.of_own (B := B) h h1
  injection e with e1 e2 e3
  subst e1 e2 e3
  refine ⟨hh, ?_⟩
  rcases h.2 with ⟨e, h0⟩ | ⟨g, cap, cur, e, _, _, hc, _⟩
  · injection e with e1 e2 e3
    omega
  · injection e with e1 e2 e3
    omega
set_option maxHeartbeats 2000000 in
set_option maxRecDepth 100000 in
/-- A kind that is none. -/
theorem build_else (w : World) (k : Int) (Ab At Ay Al : Option Addr) (cb ct cy cl : Nat) (h1 : k ≠ 1) (h2 : k ≠ 2) (h3 : k ≠ 3) (h4 : k ≠ 4) :
    Calls Try.prog 35 #[cfgV k 0 (Ab, 0, cb) (At, 0, ct) (Ay, 0, cy) (Al, 0, cl)] w fun e w' => e = .returned .nilIface ∧ Below w.heap.size w w' := by
  have hb : Below w.heap.size w (w.alloc (.cells #[.int .i64 k, .int .i64 0, .slice Ab 0 cb, .slice At 0 ct, .slice Ay 0 cy, .slice Al 0 cl] 54)) := (Below.refl _ _).alloc (Nat.le_refl _) _
  have HB := Lib.hid hb
  clear hb
  have d1 : (k == 1) = false := by simpa using h1
  have d2 : (k == 2) = false := by simpa using h2
  have d3 : (k == 3) = false := by simpa using h3
  have d4 : (k == 4) = false := by simpa using h4
  have e2 : (k != 2) = true := by simpa using h2
  have e3 : (k != 3) = true := by simpa using h3
  have e4 : (k != 4) = true := by simpa using h4
  clear h1 h2 h3 h4
  (go_enter Try.func35, Try.ntmps35; go_wp2_with fail; go_ret; exact ⟨rfl, HB.out⟩)
set_option maxHeartbeats 2000000 in
set_option maxRecDepth 100000 in
theorem build_clock (w : World) (Ab At Ay Al : Option Addr) (cb ct cy cl : Nat) :
    Calls Try.prog 35 #[cfgV 1 0 (Ab, 0, cb) (At, 0, ct) (Ay, 0, cy) (Al, 0, cl)] w fun e w' => e = .returned (.iface 119 (.agg #[])) ∧ Below w.heap.size w w' := by
  have hb : Below w.heap.size w (w.alloc (.cells #[.int .i64 1, .int .i64 0, .slice Ab 0 cb, .slice At 0 ct, .slice Ay 0 cy, .slice Al 0 cl] 54)) := (Below.refl _ _).alloc (Nat.le_refl _) _
  have HB := Lib.hid hb
  clear hb
  (go_enter Try.func35, Try.ntmps35; go_wp2_with fail; go_ret; exact ⟨rfl, HB.out⟩)
set_option maxHeartbeats 2000000 in
set_option maxRecDepth 100000 in
theorem build_line2 (w : World) (B : Nat) (hB : B ≤ w.heap.size) (Ab At Ay : Option Addr) (cb ct cy : Nat) (vl : Sl) (lost : List Int) (hl : Held B 3 w vl (ints lost)) (hn : lost.length ≤ 100000) :
    Calls Try.prog 35 #[cfgV 4 0 (Ab, 0, cb) (At, 0, ct) (Ay, 0, cy) vl] w fun e w' => ∃ d m, e = .returned (.iface 125 (ptr d)) ∧ Below w.heap.size w w' ∧ LRep B w' d m ⟨lost, 0, 0, [], [], 0⟩ ∧ ∀ k, OwnL d m k → w.heap.size ≤ k := by
  obtain ⟨va, vn, vc⟩ := vl
  obtain ⟨W, hW⟩ : ∃ W, W = w.alloc (.cells #[.int .i64 4, .int .i64 0, .slice Ab 0 cb, .slice At 0 ct, .slice Ay 0 cy, .slice va vn vc] 54) := ⟨_, rfl⟩
  have hb : Below w.heap.size w W := by rw [hW]; exact (Below.refl _ _).alloc (Nat.le_refl _) _
  have hlW := hl.below hb
  have hvn : vn ≤ 1000000 := by have := hl.1; simp [ints] at this; omega
  have C57 := Lib.hid (clone_ints W W.heap.size va vn vc (ints lost) hlW.reads (Nat.le_refl _) hl.2.1 hvn)
  have HL := Lib.hid hl
  clear hl hlW hn
  go_enter Try.func35, Try.ntmps35
  go_upto_region 16 with (fail)
  rw [← hW]
  have gb : W.heap[w.heap.size]? = some (.cells #[.int .i64 4, .int .i64 0, .slice Ab 0 cb, .slice At 0 ct, .slice Ay 0 cy, .slice va vn vc] 54 (0, 0)) := by rw [hW]; exact alloc_new _ _
  have z5 : W.cell? ⟨w.heap.size, 5, none⟩ = some (.slice va vn vc) := (cell_of gb 5).trans rfl
  have HB := Lib.hid hb
  clear gb hW hb
  go_wp2_with (go_at_call 57; (with_reducible refine (C57.out).mono ?_); rintro e w' ⟨v', rfl, hb', hr'⟩; (obtain ⟨A', c', rfl⟩ := own_form hr'); have HB' := Lib.hid hb'; have HR' := Lib.hid hr'; clear hb' hr')
  go_ret
  have hh2 := (Held.of_own2 (B := B) HR'.out HL.out.2.1).1
  have hnew := alloc_new w' (.cells #[slv (A', vn, c'), .int .i64 0, .int .i64 0, nilSl, nilSl, .int .i64 0] 128)
  have hbb := HB.out.trans (HB'.out.mono HB.out.size)
  have hsz : w.heap.size ≤ w'.heap.size := hbb.size
  refine ⟨w'.heap.size, ⟨(A', vn, c'), (none, 0, 0), (none, 0, 0), []⟩, rfl, hbb.alloc hsz _, ⟨Nat.le_trans hB hsz, hnew, RowO.none_ _, RowO.none_ _, All2.nil_, hh2.below ((Below.refl _ _).alloc (Nat.le_refl _) _)⟩, fun k hk => ?_⟩
  rcases hk with rfl | hk | hk
  · exact hsz
  · simp [slv, oblock] at hk
  · simp [slv, oblock] at hk
end Go.Proofs.Ytkdnkjjnmadhgaa.Dev
/-! A disk is built. -/
namespace Go.Proofs.Ytkdnkjjnmadhgaa.Dev
open Go.RowKit Go.Maps Go.Lib

set_option maxHeartbeats 2000000 in
set_option maxRecDepth 100000 in
/-- Too few blocks, or too many. -/
theorem build_size (w : World) (n : Int) (Ab At Ay Al : Option Addr) (nb cb ct cy cl : Nat) (hn : ¬ (16 ≤ n ∧ n ≤ 256)) :
    Calls Try.prog 35 #[cfgV 2 n (Ab, nb, cb) (At, 0, ct) (Ay, 0, cy) (Al, 0, cl)] w fun e w' => e = .returned .nilIface ∧ Below w.heap.size w w' := by
  have hb : Below w.heap.size w (w.alloc (.cells #[.int .i64 2, .int .i64 n, .slice Ab nb cb, .slice At 0 ct, .slice Ay 0 cy, .slice Al 0 cl] 54)) := (Below.refl _ _).alloc (Nat.le_refl _) _
  have HB := Lib.hid hb
  clear hb
  have hnone : ((n == 0) = false) ∨ ((n == 0) = true ∧ ((nb : Int) == 0) = false) ∨ ((n == 0) = true ∧ ((nb : Int) == 0) = true) := by
    cases (n == 0) <;> cases ((nb : Int) == 0) <;> simp
  by_cases h1 : n < 16
  · have d1 : decide (n < 16) = true := by simpa using h1
    clear h1 hn
    rcases hnone with a | ⟨a, b⟩ | ⟨a, b⟩
    · (go_enter Try.func35, Try.ntmps35; go_wp2_with fail; go_ret; exact ⟨rfl, HB.out⟩)
    · (go_enter Try.func35, Try.ntmps35; go_wp2_with fail; go_ret; exact ⟨rfl, HB.out⟩)
    · (go_enter Try.func35, Try.ntmps35; go_wp2_with fail; go_ret; exact ⟨rfl, HB.out⟩)
  · have h2 : 256 < n := by omega
    have d0 : (n == 0) = false := by simp; omega
    have d1 : decide (n < 16) = false := by simp; omega
    have d2 : decide (256 < n) = true := by simpa using h2
    clear h1 h2 hn hnone
    (go_enter Try.func35, Try.ntmps35; go_wp2_with fail; go_ret; exact ⟨rfl, HB.out⟩)
set_option maxHeartbeats 2000000 in
set_option maxRecDepth 100000 in
/-- A bad block that is none of the disk's. -/
theorem build_outs (w : World) (n : Int) (vb : Sl) (At Ay Al : Option Addr) (ct cy cl : Nat) (h16 : 16 ≤ n) (h256 : n ≤ 256) (B : Nat) (bad : List Int) (hb : Held B 3 w vb (ints bad)) (hl : bad.length ≤ 100000) (ho : Outs bad n) :
    Calls Try.prog 35 #[cfgV 2 n vb (At, 0, ct) (Ay, 0, cy) (Al, 0, cl)] w fun e w' => e = .returned .nilIface ∧ Below w.heap.size w w' := by
  obtain ⟨Ab, nb, cb⟩ := vb
  have d0 : (n == 0) = false := by simp; omega
  have d1 : decide (n < 16) = false := by simp; omega
  have d2 : decide (256 < n) = false := by simp; omega
  obtain ⟨W, hW⟩ : ∃ W, W = w.alloc (.cells #[.int .i64 2, .int .i64 n, .slice Ab nb cb, .slice At 0 ct, .slice Ay 0 cy, .slice Al 0 cl] 54) := ⟨_, rfl⟩
  have hbw : Below w.heap.size w W := by rw [hW]; exact (Below.refl _ _).alloc (Nat.le_refl _) _
  have gb : W.heap[w.heap.size]? = some (.cells #[.int .i64 2, .int .i64 n, .slice Ab nb cb, .slice At 0 ct, .slice Ay 0 cy, .slice Al 0 cl] 54 (0, 0)) := by rw [hW]; exact alloc_new _ _
  have hc : Calls Try.prog 54 #[slv (Ab, nb, cb), .func (.func 55) #[] #[ptr w.heap.size]] W fun e w' => e = .returned (.bool true) ∧ w' = W := (has_out W B w.heap.size _ bad n (hb.below hbw) hl ((cell_of gb 1).trans rfl)).mono fun e w' ⟨⟨r, h1, h2⟩, h3⟩ => ⟨by rw [h1, h2.2 ho], h3⟩
  rw [hW] at hc
  have C54 := Lib.hid hc
  have HB := Lib.hid hbw
  clear hc hb hl ho h16 h256 gb hbw
  go_enter Try.func35, Try.ntmps35
  go_wp2_with (go_at_call 54; (refine (C54.out).mono ?_); rintro e w' ⟨rfl, hw'⟩; subst hw')
  go_ret
  rw [← hW]
  exact ⟨rfl, HB.out⟩
set_option maxHeartbeats 2000000 in
set_option maxRecDepth 100000 in
/-- A disk. -/
theorem build_disk2 (w : World) (B : Nat) (hB : B ≤ w.heap.size) (n : Nat) (vb : Sl) (At Ay Al : Option Addr) (ct cy cl : Nat) (h16 : 16 ≤ n) (h256 : n ≤ 256) (bad : List Int) (hb : Held B 3 w vb (ints bad)) (hl : bad.length ≤ 100000) (ho : ¬ Outs bad n) :
    Calls Try.prog 35 #[cfgV 2 n vb (At, 0, ct) (Ay, 0, cy) (Al, 0, cl)] w fun e w' => ∃ d m, e = .returned (.iface 81 (ptr d)) ∧ Below w.heap.size w w' ∧ DRep B w' d m ⟨List.replicate n zeros, List.replicate n zeros, [], bad, 0, 0⟩ ∧ ∀ k, OwnD d m k → w.heap.size ≤ k := by
  obtain ⟨Ab, nb, cb⟩ := vb
  have d0 : ((n : Int) == 0) = false := by simp; omega
  have d1 : decide ((n : Int) < 16) = false := by simp; omega
  have d2 : decide (256 < (n : Int)) = false := by simp; omega
  have hnb : nb ≤ 1000000 := by have := hb.1; simp [ints] at this; omega
  obtain ⟨W, hW⟩ : ∃ W, W = w.alloc (.cells #[.int .i64 2, .int .i64 n, .slice Ab nb cb, .slice At 0 ct, .slice Ay 0 cy, .slice Al 0 cl] 54) := ⟨_, rfl⟩
  have hbw : Below w.heap.size w W := by rw [hW]; exact (Below.refl _ _).alloc (Nat.le_refl _) _
  have gb : W.heap[w.heap.size]? = some (.cells #[.int .i64 2, .int .i64 n, .slice Ab nb cb, .slice At 0 ct, .slice Ay 0 cy, .slice Al 0 cl] 54 (0, 0)) := by rw [hW]; exact alloc_new _ _
  have hc : Calls Try.prog 54 #[slv (Ab, nb, cb), .func (.func 55) #[] #[ptr w.heap.size]] W fun e w' => e = .returned (.bool false) ∧ w' = W := (has_out W B w.heap.size _ bad n (hb.below hbw) hl ((cell_of gb 1).trans rfl)).mono fun e w' ⟨⟨r, h1, h2⟩, h3⟩ => ⟨by
    cases r
    · exact h1
    · exact absurd (h2.1 rfl) ho, h3⟩
  have z1 : W.cell? ⟨w.heap.size, 1, none⟩ = some (.int .i64 n) := (cell_of gb 1).trans rfl
  have z2 : W.cell? ⟨w.heap.size, 2, none⟩ = some (.slice Ab nb cb) := (cell_of gb 2).trans rfl
  have hlW : Held B 3 W.drew (Ab, nb, cb) (ints bad) := (hb.below hbw).below (Below.refl _ _).drew
  have C57 := Lib.hid (clone_ints W.drew W.drew.heap.size Ab nb cb (ints bad) hlW.reads (Nat.le_refl _) hb.2.1 hnb)
  rw [hW] at hc
  have C54 := Lib.hid hc
  have HONE := Lib.hid hb.2.1
  have HB := Lib.hid hbw
  have Z1 := Lib.hid z1
  have Z2 := Lib.hid z2
  have H256 := Lib.hid h256
  clear hc hb hl ho h16 h256 gb hbw z1 z2 hlW
  go_enter Try.func35, Try.ntmps35
  go_upto_region 10 with (go_at_call 54; (refine (C54.out).mono ?_); rintro e w' ⟨rfl, hw'⟩; subst hw')
  rw [← hW]
  have z1 := Z1.out
  have z2 := Z2.out
  clear hW
  obtain ⟨C, hCd⟩ : ∃ C : World → Prop, ∀ z, C z ↔ (z.cell? ⟨w.heap.size, 1, none⟩ = some (.int .i64 n) ∧ z.cell? ⟨w.heap.size, 2, none⟩ = some (.slice Ab nb cb)) := ⟨_, fun _ => Iff.rfl⟩
  have s1 := fun s : {z : World // C z} => ((hCd s.1).1 s.2).1
  have s2 := fun s : {z : World // C z} => ((hCd s.1).1 s.2).2
  have hC0 := (hCd W.drew).2 ⟨z1, z2⟩
  haveI : Nonempty {z : World // C z} := ⟨⟨W.drew, hC0⟩⟩
  refine Mix.wp_region_mix C [4, 5] (by kernel_rfl) (by kernel_rfl) hC0 ?_
  have HCD := Lib.hid hCd
  have HC0 := Lib.hid hC0
  clear hCd hC0
  repeat (refine Mix.mix_still rfl (fun K hK => ?_); go_simp; refine hK _ ?_; clear hK K)
  refine Mix.mix_eff rfl ?_
  go_wp2_with (go_at_call 57; (with_reducible refine (C57.out).mono ?_); rintro e w1 ⟨v', rfl, hb1, hr1⟩; (obtain ⟨A', c', rfl⟩ := own_form hr1); have HB1 := Lib.hid hb1; have HR1 := Lib.hid hr1; clear hb1 hr1)
  refine ⟨(HCD.out _).2 ⟨(HB1.out.cell (lt_of_cell z1)).trans z1, (HB1.out.cell (lt_of_cell z2)).trans z2⟩, ?_⟩
  have hs1 : w.heap.size ≤ w1.heap.size := Nat.le_trans HB.out.size HB1.out.size
  have C56 := Lib.hid (new_disk_own w1 B n H256.out (A', nb, c') bad (Held.of_own2 HR1.out HONE.out).1 (Nat.le_trans hB hs1))
  have y1 : w1.cell? ⟨w.heap.size, 1, none⟩ = some (.int .i64 n) := (HB1.out.cell (lt_of_cell z1)).trans z1
  have y2 : w1.cell? ⟨w.heap.size, 2, none⟩ = some (.slice Ab nb cb) := (HB1.out.cell (lt_of_cell z2)).trans z2
  have HS1 := Lib.hid hs1
  clear hs1
  refine Mix.mix_eff rfl ?_
  go_wp2_with (go_at_call 56; (with_reducible refine (C56.out).mono ?_); rintro e w2 ⟨m, rfl, hb2, hd2, ho2⟩; have HB2 := Lib.hid hb2; have HD2 := Lib.hid hd2; have HO2 := Lib.hid ho2; clear hb2 hd2 ho2)
  refine ⟨(HCD.out _).2 ⟨(HB2.out.cell (lt_of_cell y1)).trans y1, (HB2.out.cell (lt_of_cell y2)).trans y2⟩, ?_⟩
  repeat (refine Mix.mix_still rfl (fun K hK => ?_); go_simp; refine hK _ ?_; clear hK K)
  refine Mix.mix_nil ?_
  go_wp2
  go_ret
  have hb3 : Below W.heap.size W w1 := ⟨HB1.out.os, HB1.out.tape, HB1.out.output, HB1.out.size, HB1.out.block⟩
  have hb4 := HB.out.trans (hb3.mono HB.out.size)
  exact ⟨_, m, rfl, hb4.trans (HB2.out.mono HS1.out), HD2.out, fun k hk => Nat.le_trans HS1.out (HO2.out k hk)⟩
end Go.Proofs.Ytkdnkjjnmadhgaa.Dev
/-! A terminal is built. -/
namespace Go.Proofs.Ytkdnkjjnmadhgaa.Dev
open Go.RowKit Go.Maps Go.Lib

set_option maxHeartbeats 2000000 in
set_option maxRecDepth 100000 in
/-- Not as many times as characters. -/
theorem build_uneven (w : World) (Ab At Ay Al : Option Addr) (cb nt ct ny cy cl : Nat) (hne : nt ≠ ny) :
    Calls Try.prog 35 #[cfgV 3 0 (Ab, 0, cb) (At, nt, ct) (Ay, ny, cy) (Al, 0, cl)] w fun e w' => e = .returned .nilIface ∧ Below w.heap.size w w' := by
  have hb : Below w.heap.size w (w.alloc (.cells #[.int .i64 3, .int .i64 0, .slice Ab 0 cb, .slice At nt ct, .slice Ay ny cy, .slice Al 0 cl] 54)) := (Below.refl _ _).alloc (Nat.le_refl _) _
  have HB := Lib.hid hb
  clear hb
  have d1 : ((nt : Int) != (ny : Int)) = true := by simp; omega
  clear hne
  go_enter Try.func35, Try.ntmps35
  go_wp2_with fail
  go_ret
  exact ⟨rfl, HB.out⟩
set_option maxHeartbeats 2000000 in
set_option maxRecDepth 100000 in
/-- Times that do not ascend, or a time below 0. -/
theorem build_times (w : World) (vt : Sl) (Ab Ay Al : Option Addr) (cb cy cl : Nat) (B : Nat) (times : List Int) (ht : Held B 3 w vt (ints times)) (hl : times.length ≤ 100000) (ho : ¬ Asc times ∨ (∃ t ts, times = t :: ts ∧ t < 0)) :
    Calls Try.prog 35 #[cfgV 3 0 (Ab, 0, cb) vt (Ay, times.length, cy) (Al, 0, cl)] w fun e w' => e = .returned .nilIface ∧ Below w.heap.size w w' := by
  obtain ⟨At, nt, ct⟩ := vt
  obtain rfl : times.length = nt := by simpa [ints] using ht.1
  have d1 : ((times.length : Int) != (times.length : Int)) = false := by simp
  obtain ⟨W, hW⟩ : ∃ W, W = w.alloc (.cells #[.int .i64 3, .int .i64 0, .slice Ab 0 cb, .slice At times.length ct, .slice Ay times.length cy, .slice Al 0 cl] 54) := ⟨_, rfl⟩
  have hbw : Below w.heap.size w W := by rw [hW]; exact (Below.refl _ _).alloc (Nat.le_refl _) _
  have hc := asc_any W B _ times (ht.below hbw) hl
  by_cases hasc : Asc times
  · obtain ⟨t, ts, he, hneg⟩ := ho.resolve_left (fun h => h hasc)
    have hc2 : Calls Try.prog 58 #[slv (At, times.length, ct)] W fun e w' => e = .returned (.bool true) ∧ ∃ q, w' = W.drewN q := hc.mono fun e w' ⟨⟨r, h1, h2⟩, h3⟩ => ⟨by rw [h1, h2.2 hasc], h3⟩
    obtain ⟨g, off, rfl, _, hcc⟩ := (ht.below hbw).2.2 (show 0 < times.length by rw [he]; simp)
    have z3 : W.cell? ⟨g, off, none⟩ = some (.int .i64 t) := by
      have := hcc 0 (.int .i64 t) (by rw [he]; rfl)
      exact this
    have d2 : decide (0 < (times.length : Int)) = true := by rw [he]; simp
    have d2' : 0 < times.length := by rw [he]; simp
    have d3 : decide (t < 0) = true := by simpa using hneg
    obtain ⟨nt, hnt⟩ : ∃ nt, nt = times.length := ⟨_, rfl⟩
    rw [← hnt] at hc2 hW d1 d2 d2' ⊢
    have gb : W.heap[w.heap.size]? = some (.cells #[.int .i64 3, .int .i64 0, .slice Ab 0 cb, .slice (some ⟨g, off, none⟩) nt ct, .slice Ay nt cy, .slice Al 0 cl] 54 (0, 0)) := by rw [hW]; exact alloc_new _ _
    have z4 : W.cell? ⟨w.heap.size, 3, none⟩ = some (.slice (some ⟨g, off, none⟩) nt ct) := (cell_of gb 3).trans rfl
    have Z3 := Lib.hid z3
    have Z4 := Lib.hid z4
    have hc3 := hc2
    rw [hW] at hc3
    have C58 := Lib.hid hc3
    have HB := Lib.hid hbw
    have HW := Lib.hid hW
    clear hc hc2 hc3 ht hl ho hbw hasc hcc gb z3 z4 hneg hnt he hW
    go_enter Try.func35, Try.ntmps35
    go_wp2_with (go_at_call 58; (refine (C58.out).mono ?_); rintro e w' ⟨rfl, q, hw'⟩; rw [← HW.out] at hw'; (subst hw'); have z3 := Z3.out; have z4 := Z4.out)
    go_ret
    exact ⟨rfl, below_drewN HB.out _⟩
  · have hc2 : Calls Try.prog 58 #[slv (At, times.length, ct)] W fun e w' => e = .returned (.bool false) ∧ ∃ q, w' = W.drewN q := hc.mono fun e w' ⟨⟨r, h1, h2⟩, h3⟩ => ⟨by
      cases r
      · exact h1
      · exact absurd (h2.1 rfl) hasc, h3⟩
    have hc3 := hc2
    rw [hW] at hc3
    have C58 := Lib.hid hc3
    have HB := Lib.hid hbw
    have HW := Lib.hid hW
    clear hc hc2 hc3 ht hl ho hbw hasc hW
    go_enter Try.func35, Try.ntmps35
    go_wp2_with (go_at_call 58; (refine (C58.out).mono ?_); rintro e w' ⟨rfl, q, hw'⟩; rw [← HW.out] at hw'; (subst hw'))
    go_ret
    exact ⟨rfl, below_drewN HB.out _⟩
set_option maxHeartbeats 2000000 in
set_option maxRecDepth 100000 in
/-- A terminal. -/
theorem build_term (w : World) (B : Nat) (hB : B ≤ w.heap.size) (vt vy : Sl) (Ab Al : Option Addr) (cb cl : Nat) (times chars : List Int) (ht : Held B 3 w vt (ints times)) (hy : Held B 5 w vy (bytes chars)) (hl : times.length ≤ 100000) (he : times.length = chars.length) (hasc : Asc times) (hpos : ∀ t ts, times = t :: ts → 0 ≤ t) :
    Calls Try.prog 35 #[cfgV 3 0 (Ab, 0, cb) vt vy (Al, 0, cl)] w fun e w' => ∃ d m, e = .returned (.iface 93 (ptr d)) ∧ Below w.heap.size w w' ∧ TRep B w' d m ⟨times, chars, 0⟩ ∧ m.sw = [] ∧ ∀ k, OwnT d m k → w.heap.size ≤ k := by
  obtain ⟨At, nt, ct⟩ := vt
  obtain ⟨Ay, ny, cy⟩ := vy
  have e1 : times.length = nt := by simpa [ints] using ht.1
  have e2 : nt = ny := by have := hy.1; simp [bytes] at this; omega
  subst e2
  have d1 : ((nt : Int) != (nt : Int)) = false := by simp
  obtain ⟨W, hW⟩ : ∃ W, W = w.alloc (.cells #[.int .i64 3, .int .i64 0, .slice Ab 0 cb, .slice At nt ct, .slice Ay nt cy, .slice Al 0 cl] 54) := ⟨_, rfl⟩
  have hbw : Below w.heap.size w W := by rw [hW]; exact (Below.refl _ _).alloc (Nat.le_refl _) _
  have gb : W.heap[w.heap.size]? = some (.cells #[.int .i64 3, .int .i64 0, .slice Ab 0 cb, .slice At nt ct, .slice Ay nt cy, .slice Al 0 cl] 54 (0, 0)) := by rw [hW]; exact alloc_new _ _
  have hc2 : Calls Try.prog 58 #[slv (At, nt, ct)] W fun e w' => e = .returned (.bool true) ∧ ∃ q, w' = W.drewN q := (asc_any W B _ times (ht.below hbw) hl).mono fun e w' ⟨⟨r, h1, h2⟩, h3⟩ => ⟨by rw [h1, h2.2 hasc], h3⟩
  rw [hW] at hc2
  have C58 := Lib.hid hc2
  have htW := fun q => (ht.below hbw).below (below_drewN (Below.refl W.heap.size W) q)
  have hyW := hy.below hbw
  have C57 := Lib.hid (fun q => clone_ints (W.drewN q) (W.drewN q).heap.size At nt ct (ints times) (htW q).reads (Nat.le_refl _) ht.2.1 (by omega))
  have z3 : W.cell? ⟨w.heap.size, 3, none⟩ = some (.slice At nt ct) := (cell_of gb 3).trans rfl
  have z4 : W.cell? ⟨w.heap.size, 4, none⟩ = some (.slice Ay nt cy) := (cell_of gb 4).trans rfl
  have HT := Lib.hid ht.2.1
  have HY := Lib.hid hy.2.1
  have HYW := Lib.hid hyW
  have HB := Lib.hid hbw
  have HW := Lib.hid hW
  have Z3 := Lib.hid z3
  have Z4 := Lib.hid z4
  have HNL : Hid (nt ≤ 1000000) := Lib.hid (by omega)
  have HX : Hid (∃ z, W.cell? z = W.cell? z ∧ (0 < nt → ∃ g off t, At = some ⟨g, off, none⟩ ∧ 0 ≤ t ∧ W.cell? ⟨g, off, none⟩ = some (.int .i64 t))) := Lib.hid (by
    refine ⟨⟨0, 0, none⟩, rfl, fun hn => ?_⟩
    obtain ⟨g, off, e, _, hcc⟩ := (ht.below hbw).2.2 hn
    cases hts : times with
    | nil => rw [hts] at e1; simp at e1; omega
    | cons t ts => exact ⟨g, off, t, e, hpos t ts hts, hcc 0 _ (by rw [hts]; rfl)⟩)
  clear hc2 ht hy hl he hasc hpos hbw gb htW hyW z3 z4 e1
  by_cases hn : 0 < nt
  · obtain ⟨_, _, hx⟩ := HX.out
    obtain ⟨g, off, t, rfl, h0, hcell⟩ := hx hn
    have d2 : decide (0 < (nt : Int)) = true := by simpa using hn
    have d2' : decide (0 < nt) = true := by simpa using hn
    have d3 : decide (t < 0) = false := by simp; omega
    have HCELL := Lib.hid hcell
    clear HX hx h0 hcell hW
    go_enter Try.func35, Try.ntmps35
    go_upto_region 14 with (go_at_call 58; (refine (C58.out).mono ?_); rintro e w' ⟨rfl, q, hw'⟩; rw [← HW.out] at hw'; (subst hw'); have z3 := Z3.out; have z4 := Z4.out; have zc := HCELL.out)
    clear zc z3 z4
    have z3 := Z3.out
    have z4 := Z4.out
    obtain ⟨C, hCd⟩ : ∃ C : World → Prop, ∀ z, C z ↔ (z.cell? ⟨w.heap.size, 3, none⟩ = some (.slice (some ⟨g, off, none⟩) nt ct) ∧ z.cell? ⟨w.heap.size, 4, none⟩ = some (.slice Ay nt cy)) := ⟨_, fun _ => Iff.rfl⟩
    have s1 := fun s : {z : World // C z} => ((hCd s.1).1 s.2).1
    have s2 := fun s : {z : World // C z} => ((hCd s.1).1 s.2).2
    have hC0 := (hCd (W.drewN q).drew).2 ⟨z3, z4⟩
    haveI : Nonempty {z : World // C z} := ⟨⟨(W.drewN q).drew, hC0⟩⟩
    refine Mix.wp_region_mix C [2, 5, 7] (by kernel_rfl) (by kernel_rfl) hC0 ?_
    have HCD := Lib.hid hCd
    have HC0 := Lib.hid hC0
    clear hCd hC0
    repeat (refine Mix.mix_still rfl (fun K hK => ?_); go_simp; refine hK _ ?_; clear hK K)
    refine Mix.mix_eff rfl ?_
    have C57' := Lib.hid (C57.out (q + 1))
    go_wp2_with (go_at_call 57; (with_reducible refine (C57'.out).mono ?_); rintro e w1 ⟨v', rfl, hb1, hr1⟩; (obtain ⟨A', c', rfl⟩ := own_form hr1); have HB1 := Lib.hid hb1; have HR1 := Lib.hid hr1; clear hb1 hr1)
    have y3 : w1.cell? ⟨w.heap.size, 3, none⟩ = some (.slice (some ⟨g, off, none⟩) nt ct) := (HB1.out.cell (lt_of_cell z3)).trans z3
    have y4 : w1.cell? ⟨w.heap.size, 4, none⟩ = some (.slice Ay nt cy) := (HB1.out.cell (lt_of_cell z4)).trans z4
    have hq : Below W.heap.size W (W.drewN (q + 1)) := below_drewN (Below.refl _ _) (q + 1)
    have hb2 : Below W.heap.size W w1 := hq.trans (HB1.out.mono (Nat.le_refl _))
    have C47 := Lib.hid (clone_bytes w1 w1.heap.size Ay nt cy (bytes chars) (HYW.out.below hb2).reads (Nat.le_refl _) HY.out HNL.out)
    have HB2 := Lib.hid hb2
    clear hb2 hq z3 z4
    refine ⟨(HCD.out _).2 ⟨y3, y4⟩, ?_⟩
    repeat (refine Mix.mix_still rfl (fun K hK => ?_); go_simp; refine hK _ ?_; clear hK K)
    refine Mix.mix_eff rfl ?_
    go_wp2_with (go_at_call 47; (with_reducible refine (C47.out).mono ?_); rintro e w2 ⟨v', rfl, hb3, hr3⟩; (obtain ⟨A2, c2, rfl⟩ := own_form hr3); have HB3 := Lib.hid hb3; have HR3 := Lib.hid hr3; clear hb3 hr3)
    have x3 : w2.cell? ⟨w.heap.size, 3, none⟩ = some (.slice (some ⟨g, off, none⟩) nt ct) := (HB3.out.cell (lt_of_cell y3)).trans y3
    have x4 : w2.cell? ⟨w.heap.size, 4, none⟩ = some (.slice Ay nt cy) := (HB3.out.cell (lt_of_cell y4)).trans y4
    refine ⟨(HCD.out _).2 ⟨x3, x4⟩, ?_⟩
    repeat (refine Mix.mix_still rfl (fun K hK => ?_); go_simp; refine hK _ ?_; clear hK K)
    refine Mix.mix_eff rfl ?_
    go_wp2_with fail
    refine ⟨(HCD.out _).2 ⟨Lib.cell?_alloc_some (W := w2) _ x3, Lib.cell?_alloc_some (W := w2) _ x4⟩, ?_⟩
    repeat (refine Mix.mix_still rfl (fun K hK => ?_); go_simp; refine hK _ ?_; clear hK K)
    refine Mix.mix_nil ?_
    go_wp2
    go_ret
    have hnew := alloc_new w2 (.cells #[slv (A', nt, c'), slv (A2, nt, c2), nilSl, .int .i64 0] 124)
    have h1 := Held.of_own2 (B := B) HR1.out HT.out
    have h2 := Held.of_own2 (B := B) HR3.out HY.out
    have hb5 := HB.out.trans (HB2.out.mono HB.out.size)
    have hb6 := hb5.trans (HB3.out.mono hb5.size)
    have hal : Below w2.heap.size w2 (w2.alloc (.cells #[slv (A', nt, c'), slv (A2, nt, c2), nilSl, .int .i64 0] 124)) := (Below.refl _ _).alloc (Nat.le_refl _) _
    refine ⟨w2.heap.size, ⟨(A', nt, c'), (A2, nt, c2), (none, 0, 0), []⟩, rfl, hb6.alloc hb6.size _, ⟨Nat.le_trans hB hb6.size, hnew, (h1.1.below HB3.out).below hal, h2.1.below hal, owns_none, h1.2, h2.2⟩, rfl, fun k hk => ?_⟩
    rcases hk with rfl | hk
    · exact hb6.size
    · simp [slv, Value.ownBlock] at hk
  · have d2 : decide (0 < (nt : Int)) = false := by simp; omega
    have d2' : decide (0 < nt) = false := by simp; omega
    clear hn
    clear HX hW
    go_enter Try.func35, Try.ntmps35
    go_upto_region 14 with (go_at_call 58; (refine (C58.out).mono ?_); rintro e w' ⟨rfl, q, hw'⟩; rw [← HW.out] at hw'; (subst hw'); have z3 := Z3.out; have z4 := Z4.out)
    clear z3 z4
    have z3 := Z3.out
    have z4 := Z4.out
    obtain ⟨C, hCd⟩ : ∃ C : World → Prop, ∀ z, C z ↔ (z.cell? ⟨w.heap.size, 3, none⟩ = some (.slice At nt ct) ∧ z.cell? ⟨w.heap.size, 4, none⟩ = some (.slice Ay nt cy)) := ⟨_, fun _ => Iff.rfl⟩
    have s1 := fun s : {z : World // C z} => ((hCd s.1).1 s.2).1
    have s2 := fun s : {z : World // C z} => ((hCd s.1).1 s.2).2
    have hC0 := (hCd (W.drewN q).drew).2 ⟨z3, z4⟩
    haveI : Nonempty {z : World // C z} := ⟨⟨(W.drewN q).drew, hC0⟩⟩
    refine Mix.wp_region_mix C [2, 5, 7] (by kernel_rfl) (by kernel_rfl) hC0 ?_
    have HCD := Lib.hid hCd
    have HC0 := Lib.hid hC0
    clear hCd hC0
    repeat (refine Mix.mix_still rfl (fun K hK => ?_); go_simp; refine hK _ ?_; clear hK K)
    refine Mix.mix_eff rfl ?_
    have C57' := Lib.hid (C57.out (q + 1))
    go_wp2_with (go_at_call 57; (with_reducible refine (C57'.out).mono ?_); rintro e w1 ⟨v', rfl, hb1, hr1⟩; (obtain ⟨A', c', rfl⟩ := own_form hr1); have HB1 := Lib.hid hb1; have HR1 := Lib.hid hr1; clear hb1 hr1)
    have y3 : w1.cell? ⟨w.heap.size, 3, none⟩ = some (.slice At nt ct) := (HB1.out.cell (lt_of_cell z3)).trans z3
    have y4 : w1.cell? ⟨w.heap.size, 4, none⟩ = some (.slice Ay nt cy) := (HB1.out.cell (lt_of_cell z4)).trans z4
    have hq : Below W.heap.size W (W.drewN (q + 1)) := below_drewN (Below.refl _ _) (q + 1)
    have hb2 : Below W.heap.size W w1 := hq.trans (HB1.out.mono (Nat.le_refl _))
    have C47 := Lib.hid (clone_bytes w1 w1.heap.size Ay nt cy (bytes chars) (HYW.out.below hb2).reads (Nat.le_refl _) HY.out HNL.out)
    have HB2 := Lib.hid hb2
    clear hb2 hq z3 z4
    refine ⟨(HCD.out _).2 ⟨y3, y4⟩, ?_⟩
    repeat (refine Mix.mix_still rfl (fun K hK => ?_); go_simp; refine hK _ ?_; clear hK K)
    refine Mix.mix_eff rfl ?_
    go_wp2_with (go_at_call 47; (with_reducible refine (C47.out).mono ?_); rintro e w2 ⟨v', rfl, hb3, hr3⟩; (obtain ⟨A2, c2, rfl⟩ := own_form hr3); have HB3 := Lib.hid hb3; have HR3 := Lib.hid hr3; clear hb3 hr3)
    have x3 : w2.cell? ⟨w.heap.size, 3, none⟩ = some (.slice At nt ct) := (HB3.out.cell (lt_of_cell y3)).trans y3
    have x4 : w2.cell? ⟨w.heap.size, 4, none⟩ = some (.slice Ay nt cy) := (HB3.out.cell (lt_of_cell y4)).trans y4
    refine ⟨(HCD.out _).2 ⟨x3, x4⟩, ?_⟩
    repeat (refine Mix.mix_still rfl (fun K hK => ?_); go_simp; refine hK _ ?_; clear hK K)
    refine Mix.mix_eff rfl ?_
    go_wp2_with fail
    refine ⟨(HCD.out _).2 ⟨Lib.cell?_alloc_some (W := w2) _ x3, Lib.cell?_alloc_some (W := w2) _ x4⟩, ?_⟩
    repeat (refine Mix.mix_still rfl (fun K hK => ?_); go_simp; refine hK _ ?_; clear hK K)
    refine Mix.mix_nil ?_
    go_wp2
    go_ret
    have hnew := alloc_new w2 (.cells #[slv (A', nt, c'), slv (A2, nt, c2), nilSl, .int .i64 0] 124)
    have h1 := Held.of_own2 (B := B) HR1.out HT.out
    have h2 := Held.of_own2 (B := B) HR3.out HY.out
    have hb5 := HB.out.trans (HB2.out.mono HB.out.size)
    have hb6 := hb5.trans (HB3.out.mono hb5.size)
    have hal : Below w2.heap.size w2 (w2.alloc (.cells #[slv (A', nt, c'), slv (A2, nt, c2), nilSl, .int .i64 0] 124)) := (Below.refl _ _).alloc (Nat.le_refl _) _
    refine ⟨w2.heap.size, ⟨(A', nt, c'), (A2, nt, c2), (none, 0, 0), []⟩, rfl, hb6.alloc hb6.size _, ⟨Nat.le_trans hB hb6.size, hnew, (h1.1.below HB3.out).below hal, h2.1.below hal, owns_none, h1.2, h2.2⟩, rfl, fun k hk => ?_⟩
    rcases hk with rfl | hk
    · exact hb6.size
    · simp [slv, Value.ownBlock] at hk
end Go.Proofs.Ytkdnkjjnmadhgaa.Dev
/-! What a device is built to be. -/
namespace Go.Proofs.Ytkdnkjjnmadhgaa.Dev
open Go.RowKit Go.Maps Go.Lib

/-- What a device is to be. -/
structure Cf where
  kind : Int
  n : Int
  bad : List Int
  times : List Int
  chars : List Int
  lost : List Int
/-- Its slices. -/
structure CfV where
  vb : Sl
  vt : Sl
  vy : Sl
  vl : Sl
structure CfRep (B : Nat) (w : World) (v : CfV) (c : Cf) : Prop where
  b : Held B 3 w v.vb (ints c.bad)
  t : Held B 3 w v.vt (ints c.times)
  y : Held B 5 w v.vy (bytes c.chars)
  l : Held B 3 w v.vl (ints c.lost)
  few : c.bad.length ≤ 300 ∧ c.times.length ≤ 300 ∧ c.chars.length ≤ 300 ∧ c.lost.length ≤ 300
  byt : Byt c.chars
theorem CfRep.below {B : Nat} {w w' : World} {v : CfV} {c : Cf} (h : CfRep B w v c) (hb : Below w.heap.size w w') : CfRep B w' v c :=
  ⟨h.b.below hb, h.t.below hb, h.y.below hb, h.l.below hb, h.few, h.byt⟩
abbrev cfgOf (c : Cf) (v : CfV) : Value := cfgV c.kind c.n v.vb v.vt v.vy v.vl
def badCf (c : Cf) : Prop := (c.kind ≠ 3 ∧ 0 < c.times.length + c.chars.length) ∨ (c.kind ≠ 2 ∧ ¬ (c.n = 0 ∧ c.bad.length = 0)) ∨ (c.kind ≠ 4 ∧ 0 < c.lost.length)
open Classical in
/-- The device, or none. -/
noncomputable def buildF (c : Cf) : Option PDv :=
  if badCf c then none
  else if c.kind = 1 then some .clock
  else if c.kind = 2 then (if (16 ≤ c.n ∧ c.n ≤ 256) ∧ ¬ Outs c.bad c.n then some (.disk ⟨List.replicate c.n.toNat zeros, List.replicate c.n.toNat zeros, [], c.bad, 0, 0⟩) else none)
  else if c.kind = 3 then (if c.times.length = c.chars.length ∧ Asc c.times ∧ ∀ t ts, c.times = t :: ts → 0 ≤ t then some (.term ⟨c.times, c.chars, 0⟩) else none)
  else if c.kind = 4 then some (.line ⟨c.lost, 0, 0, [], [], 0⟩)
  else none
/-- What build gave. -/
def Built (B N : Nat) (w' : World) (o : Option PDv) (e : Ending) : Prop :=
  match o with
  | none => e = .returned .nilIface
  | some p => ∃ t x S, e = .returned (.iface t x) ∧ DevRep B w' (.iface t x) S 0 p ∧ ∀ k, S k → N ≤ k
theorem sl_len {B ty : Nat} {w : World} {v : Sl} {xs : List Value} {n : Nat} (h : Held B ty w v xs) (hn : xs.length = n) : ∃ A c, v = (A, n, c) := by
  obtain ⟨A, m, c⟩ := v
  have := h.1
  exact ⟨A, c, by simp at this; rw [← hn, this]⟩
theorem build_any (w : World) (B : Nat) (hB : B ≤ w.heap.size) (c : Cf) (v : CfV) (h : CfRep B w v c) :
    Calls Try.prog 35 #[cfgOf c v] w fun e w' => Built B w.heap.size w' (buildF c) e ∧ Below w.heap.size w w' := by
  obtain ⟨k, n, bad, times, chars, lost⟩ := c
  obtain ⟨vb, vt, vy, vl⟩ := v
  obtain ⟨hb, ht, hy, hl, ⟨f1, f2, f3, f4⟩, hbyt⟩ := h
  dsimp only at hb ht hy hl f1 f2 f3 f4 hbyt
  obtain ⟨Ab, cb, rfl⟩ := sl_len hb (n := bad.length) (by simp [ints])
  obtain ⟨At, ct, rfl⟩ := sl_len ht (n := times.length) (by simp [ints])
  obtain ⟨Ay, cy, rfl⟩ := sl_len hy (n := chars.length) (by simp [bytes])
  obtain ⟨Al, cl, rfl⟩ := sl_len hl (n := lost.length) (by simp [ints])
  show Calls Try.prog 35 #[cfgV k n (Ab, bad.length, cb) (At, times.length, ct) (Ay, chars.length, cy) (Al, lost.length, cl)] w _
  unfold buildF
  by_cases hbad : badCf ⟨k, n, bad, times, chars, lost⟩
  · rw [if_pos hbad]
    exact build_refuse w k n Ab At Ay Al bad.length cb times.length ct chars.length cy lost.length cl (by omega) (by omega) hbad
  rw [if_neg hbad]
  unfold badCf at hbad
  dsimp only at hbad ⊢
  by_cases k1 : k = 1
  · subst k1
    rw [if_pos rfl]
    have h1 : bad.length = 0 ∧ n = 0 ∧ times.length = 0 ∧ chars.length = 0 ∧ lost.length = 0 := by omega
    obtain ⟨h1, rfl, h3, h4, h5⟩ := h1
    rw [h1, h3, h4, h5]
    exact (build_clock w Ab At Ay Al cb ct cy cl).mono fun e w' ⟨he, hb⟩ => ⟨⟨_, _, fun _ => False, he, ⟨rfl, fun _ => id⟩, fun _ => False.elim⟩, hb⟩
  rw [if_neg k1]
  by_cases k2 : k = 2
  · subst k2
    rw [if_pos rfl]
    have h1 : times.length = 0 ∧ chars.length = 0 ∧ lost.length = 0 := by omega
    obtain ⟨h3, h4, h5⟩ := h1
    rw [h3, h4, h5]
    by_cases hs : 16 ≤ n ∧ n ≤ 256
    · obtain ⟨m, rfl⟩ : ∃ m : Nat, n = m := ⟨n.toNat, by omega⟩
      by_cases ho : Outs bad m
      · rw [if_neg (fun hh => hh.2 ho)]
        exact build_outs w m _ At Ay Al ct cy cl hs.1 hs.2 B bad hb (by omega) ho
      · rw [if_pos ⟨hs, ho⟩]
        exact (build_disk2 w B hB m _ At Ay Al ct cy cl (by omega) (by omega) bad hb (by omega) ho).mono fun e w' ⟨d, dm, he, hbe, hr, ho⟩ => ⟨⟨_, _, OwnD d dm, he, ⟨d, dm, rfl, hr, fun _ => Iff.rfl⟩, ho⟩, hbe⟩
    · rw [if_neg (fun hh => hs hh.1)]
      exact build_size w n Ab At Ay Al bad.length cb ct cy cl hs
  rw [if_neg k2]
  by_cases k3 : k = 3
  · subst k3
    rw [if_pos rfl]
    have h1 : bad.length = 0 ∧ n = 0 ∧ lost.length = 0 := by omega
    obtain ⟨h1, rfl, h5⟩ := h1
    rw [h1, h5]
    by_cases he : times.length = chars.length
    · by_cases ho : Asc times ∧ ∀ t ts, times = t :: ts → 0 ≤ t
      · rw [if_pos ⟨he, ho⟩]
        exact (build_term w B hB _ _ Ab Al cb cl times chars ht hy (by omega) he ho.1 ho.2).mono fun e w' ⟨d, tm, he, hbe, hr, hs, ho⟩ => ⟨⟨_, _, OwnT d tm, he, ⟨d, tm, rfl, hr, by rw [hs]; exact Nat.le_refl _, fun _ => Iff.rfl⟩, ho⟩, hbe⟩
      · rw [if_neg (fun hh => ho hh.2), ← he]
        refine build_times w _ Ab Ay Al cb cy cl B times ht (by omega) ?_
        by_cases ha : Asc times
        · right
          cases hts : times with
          | nil => exact absurd ⟨ha, fun t ts e => by rw [hts] at e; cases e⟩ ho
          | cons t ts =>
            refine ⟨t, ts, rfl, ?_⟩
            by_cases hneg : t < 0
            · exact hneg
            · refine absurd ⟨ha, fun t' ts' e => ?_⟩ ho
              rw [hts] at e
              injection e with e1 e2
              omega
        · exact .inl ha
    · rw [if_neg (fun hh => he hh.1)]
      exact build_uneven w Ab At Ay Al cb times.length ct chars.length cy cl he
  rw [if_neg k3]
  have h1 : bad.length = 0 ∧ n = 0 ∧ times.length = 0 ∧ chars.length = 0 := by omega
  obtain ⟨h1, rfl, h3, h4⟩ := h1
  by_cases k4 : k = 4
  · subst k4
    rw [if_pos rfl, h1, h3, h4]
    exact (build_line2 w B hB Ab At Ay cb ct cy _ lost hl (by omega)).mono fun e w' ⟨d, lm, he, hbe, hr, ho⟩ => ⟨⟨_, _, OwnL d lm, he, ⟨d, lm, rfl, hr, fun _ => Iff.rfl⟩, ho⟩, hbe⟩
  · rw [if_neg k4, h1, h3, h4, show lost.length = 0 by omega]
    exact build_else w k Ab At Ay Al cb ct cy cl k1 k2 k3 k4
theorem build_inv {B : Nat} {w : World} {c : Cf} {v : CfV} {p : PDv} (h : CfRep B w v c) (hp : buildF c = some p) : PInv 0 p := by
  unfold buildF at hp
  split at hp
  · cases hp
  split at hp
  · injection hp with hp; subst hp; trivial
  split at hp
  · split at hp
    · rename_i hc
      injection hp with hp
      subst hp
      refine ⟨fun x hx => ?_, ?_, h.few.1, Nat.le_refl _, Int.le_refl 0, (by decide : (0 : Int) ≤ 256), Int.le_refl 0, (by decide : (0 : Int) ≤ 1000000000 + 257 * ((0 : Nat) : Int))⟩
      · rw [(List.mem_replicate.1 hx).2]; decide
      · show (List.replicate _ _).length ≤ 256
        rw [List.length_replicate]
        omega
    · cases hp
  split at hp
  · split at hp
    · rename_i hc
      injection hp with hp
      subst hp
      exact ⟨hc.1, h.byt, h.few.2.1⟩
    · cases hp
  split at hp
  · injection hp with hp
    subst hp
    exact ⟨Int.le_refl 0, (by decide : (0 : Int) ≤ 1000000000 + 10 * ((0 : Nat) : Int)), Int.le_refl 0, Int.le_refl 0, h.few.2.2.2, Nat.le_refl _, Nat.le_refl _, fun x hx => by cases hx⟩
  · cases hp
end Go.Proofs.Ytkdnkjjnmadhgaa.Dev
/-! A bus with any devices is made. -/
namespace Go.Proofs.Ytkdnkjjnmadhgaa.Dev
open Go.RowKit Go.Maps Go.Lib

def cfgCells (x : Cf × CfV) : List Value := [.int .i64 x.1.kind, .int .i64 x.1.n, slv x.2.vb, slv x.2.vt, slv x.2.vy, slv x.2.vl]
/-- The devices' row, in memory. -/
def InCfgs (w : World) (A : Option Addr) (l : List (Cf × CfV)) : Prop := 0 < l.length → ∃ g off, A = some ⟨g, off, none⟩ ∧ g < w.heap.size ∧ ∀ j x, l[j]? = some x → ∀ i u, (cfgCells x)[i]? = some u → w.cell? ⟨g, off + j * 6 + i, none⟩ = some u
theorem DevRep.touch84 {B : Nat} {w w' : World} {v : Value} {S : Nat → Prop} {N : Nat} {p : PDv} {T : Nat → Prop} (h : DevRep B w v S N p) (hk : ∀ k, k < w.heap.size → ¬ T k → w'.heap[k]? = w.heap[k]?) (hs : ∀ k, T k → B ≤ k ∧ ∃ cur ty, w.heap[k]? = some (.cells cur ty (0, 0)) ∧ (ty = 80 ∨ ty = 84)) : DevRep B w' v S N p :=
  h.keep fun k hl ho => hk k hl fun e => by
    obtain ⟨hb, cur, ty, hc, hty⟩ := hs k e
    rcases ho with ho | ho | ⟨cur', ty', hc', hty'⟩
    · obtain ⟨_, cur', ty', hc', hty'⟩ := h.tys ho
      rw [hc] at hc'
      simp at hc'
      obtain ⟨_, rfl⟩ := hc'
      rcases hty with rfl | rfl <;> simp at hty'
    · omega
    · rw [hc] at hc'
      simp at hc'
      obtain ⟨_, rfl⟩ := hc'
      rcases hty with rfl | rfl <;> simp at hty'
/-- A bus while its devices are made. -/
structure MkG (B b : Nat) (w : World) (vd : Sl) (vs : List Value) (ds : List PDv) (Ss : List (Nat → Prop)) : Prop where
  low : B ≤ b
  cells : w.heap[b]? = some (.cells #[slv vd, .int .i64 0, .int .i64 0, .int .i64 0, nilSl] 80 (0, 0))
  row : w.ownsRow b 84 1 (slv vd) vs.length vs
  len1 : vs.length = ds.length
  len2 : Ss.length = ds.length
  dev : ∀ (i : Nat) v p S, vs[i]? = some v → ds[i]? = some p → Ss[i]? = some S → DevRep B w v S 0 p
  apart : ∀ (i j : Nat) S S', i ≠ j → Ss[i]? = some S → Ss[j]? = some S' → ∀ k, S k → ¬ S' k
theorem MkG.lt {B b : Nat} {w : World} {vd : Sl} {vs : List Value} {ds : List PDv} {Ss : List (Nat → Prop)} (h : MkG B b w vd vs ds Ss) {i : Nat} {S : Nat → Prop} (hS : Ss[i]? = some S) {k : Nat} (hk : S k) : k < w.heap.size := by
  have hi := (List.getElem?_eq_some_iff.1 hS).1
  have h1 : i < ds.length := by rw [← h.len2]; exact hi
  have h2 : i < vs.length := by rw [h.len1]; exact h1
  obtain ⟨_, cur, ty, hc, _⟩ := (h.dev i _ _ _ (List.getElem?_eq_getElem h2) (List.getElem?_eq_getElem h1) hS).tys hk
  exact blt hc
theorem get_snoc {α : Type} {l : List α} {x y : α} {i : Nat} (h : (l ++ [x])[i]? = some y) : l[i]? = some y ∨ (i = l.length ∧ y = x) := by
  by_cases hi : i < l.length
  · rw [List.getElem?_append_left hi] at h
    exact .inl h
  · rw [List.getElem?_append_right (by omega)] at h
    have : i - l.length = 0 := by
      by_cases e : i - l.length = 0
      · exact e
      · rw [List.getElem?_eq_none (by simp; omega)] at h; cases h
    rw [this] at h
    injection h with h
    exact .inr ⟨by omega, h.symm⟩
/-- Another device. -/
theorem MkG.add {B b : Nat} {w w1 w' : World} {vd vd' : Sl} {vs : List Value} {ds : List PDv} {Ss : List (Nat → Prop)} (h : MkG B b w vd vs ds Ss) {v : Value} {S : Nat → Prop} {p : PDv}
    (hb : Below w.heap.size w w1) (hD : DevRep B w1 v S 0 p) (hf : ∀ k, S k → w.heap.size ≤ k)
    (hc : w'.heap[b]? = some (.cells #[slv vd', .int .i64 0, .int .i64 0, .int .i64 0, nilSl] 80 (0, 0))) (hr : w'.ownsRow b 84 1 (slv vd') (vs.length + 1) (vs ++ [v]))
    (hk : ∀ k, k < w1.heap.size → ¬ (k = b ∨ (slv vd).ownBlock = some k) → w'.heap[k]? = w1.heap[k]?) : MkG B b w' vd' (vs ++ [v]) (ds ++ [p]) (Ss ++ [S]) := by
  have hty : ∀ k, (k = b ∨ (slv vd).ownBlock = some k) → B ≤ k ∧ ∃ cur ty, w1.heap[k]? = some (.cells cur ty (0, 0)) ∧ (ty = 80 ∨ ty = 84) := fun k hk => by
    rcases hk with rfl | hk
    · exact ⟨h.low, _, 80, (hb.block _ (blt h.cells)).trans h.cells, .inl rfl⟩
    · obtain ⟨h1, cur, h2⟩ := own_block h.row hk
      exact ⟨Nat.le_trans h.low h1, cur, 84, (hb.block _ (blt h2)).trans h2, .inr rfl⟩
  refine ⟨h.low, hc, by rw [List.length_append]; exact hr, by simp [h.len1], by simp [h.len2], fun i u q T hu hq hT => ?_, fun i j T T' hij hT hT' k hk1 hk2 => ?_⟩
  · rcases get_snoc hu with hu | ⟨ei, rfl⟩
    · have hi := (List.getElem?_eq_some_iff.1 hu).1
      rcases get_snoc hq with hq | ⟨e2, _⟩
      · rcases get_snoc hT with hT | ⟨e3, _⟩
        · exact ((h.dev i u q T hu hq hT).keep fun k hl _ => hb.block k hl).touch84 hk hty
        · have := h.len2; have := h.len1; omega
      · have := h.len1; omega
    · rcases get_snoc hq with hq | ⟨_, rfl⟩
      · have := (List.getElem?_eq_some_iff.1 hq).1; have := h.len1; omega
      · rcases get_snoc hT with hT | ⟨_, rfl⟩
        · have := (List.getElem?_eq_some_iff.1 hT).1; have := h.len2; have := h.len1; omega
        · exact hD.touch84 hk hty
  · rcases get_snoc hT with hU | ⟨e1, rfl⟩
    · rcases get_snoc hT' with hU' | ⟨e2, rfl⟩
      · exact h.apart i j T T' hij hU hU' k hk1 hk2
      · have := h.lt hU hk1; have := hf k hk2; omega
    · rcases get_snoc hT' with hU' | ⟨e2, rfl⟩
      · have := h.lt hU' hk2; have := hf k hk1; omega
      · omega
/-- What New gave. -/
def NewG (B : Nat) (w : World) (cs : List Cf) (e : Ending) (w' : World) : Prop :=
  (e = .returned (.tuple #[.pointer none, .int .i64 1]) ∧ ∃ c ∈ cs, buildF c = none) ∨
  (e = .returned (.tuple #[ptr w.heap.size, .int .i64 0]) ∧ ∃ ds Ss vd vs, All2 (fun c p => buildF c = some p) cs ds ∧ MkG B w.heap.size w' vd vs ds Ss)
set_option maxHeartbeats 1000000 in
set_option maxRecDepth 100000 in
/-- Too many devices. -/
theorem new_many (w : World) (A : Option Addr) (n c : Nat) (hn : 5 < n) : Calls Try.prog 23 #[.slice A n c] w fun e w' => e = .returned (.tuple #[.pointer none, .int .i64 2]) ∧ Below w.heap.size w w' := by
  have hd : decide (5 < (n : Int)) = true := by simp; omega
  clear hn
  go_enter Try.func23, Try.ntmps23
  go_wp2_with fail
  go_ret2
  exact ⟨rfl, Below.refl _ _⟩
set_option maxHeartbeats 2000000 in
set_option maxRecDepth 100000 in
theorem new_any (w : World) (B : Nat) (hB : B ≤ w.heap.size) (A : Option Addr) (c : Nat) (l : List (Cf × CfV)) (hl : InCfgs w A l) (hR : ∀ x ∈ l, CfRep B w x.2 x.1) (hn : l.length ≤ 5) :
    Calls Try.prog 23 #[.slice A l.length c] w fun e w' => NewG B w (l.map (·.1)) e w' ∧ Below w.heap.size w w' := by
  obtain ⟨n, hnl⟩ : ∃ n, n = l.length := ⟨_, rfl⟩
  have hd5 : decide (5 < (n : Int)) = false := by simp; omega
  rw [← hnl]
  have HL := Lib.hid hl
  have HR := Lib.hid hR
  have HNL := Lib.hid hnl
  have HN5 : Hid (n ≤ 5) := Lib.hid (by omega)
  clear hl hR hn hnl
  go_enter Try.func23, Try.ntmps23
  go_wp2_with fail
  obtain ⟨i0, hi, hz0, hz1, hz2⟩ := info_parts infoB84
  go_loopw [15] (fun i wr => ∃ (j : Nat) (vd : Sl) (vs : List Value) (ds : List PDv) (Ss : List (Nat → Prop)), j ≤ n ∧ i = .int .i64 j ∧ vs.length = j ∧ All2 (fun c p => buildF c = some p) ((l.map (·.1)).take j) ds ∧ MkG B w.heap.size wr vd vs ds Ss ∧ Below w.heap.size w wr) (fun i _ => n - (intOf i).toNat)
  case atStart =>
    refine ⟨0, (none, 0, 0), [], [], [], Nat.zero_le _, rfl, rfl, by rw [List.take_zero]; exact All2.nil_, ⟨hB, alloc_new _ _, owns_none, rfl, rfl, ?_, ?_⟩, (Below.refl _ _).alloc (Nat.le_refl _) _⟩
    · intro i v p S hv; simp at hv
    · intro i j S S' _ hS; simp at hS
  case round =>
    obtain ⟨j, vd, vs, ds, Ss, hj, rfl, hvl, hall, hmk, hb⟩ := hrel
    by_cases hlt : j < n
    · as_aux_lemma =>
        have hd : decide ((j : Int) < (n : Int)) = true := by simpa using hlt
        obtain ⟨g, off, rfl, hg, hcells⟩ := HL.out (by rw [← HNL.out]; omega)
        obtain ⟨x, hx⟩ : ∃ x, l[j]? = some x := ⟨_, List.getElem?_eq_getElem (by rw [← HNL.out]; exact hlt)⟩
        have q0 := (hb.cell hg).trans (hcells j x hx 0 _ rfl)
        have q1 := (hb.cell (p := ⟨g, off + j * 6 + 1, none⟩) hg).trans (hcells j x hx 1 _ rfl)
        have q2 := (hb.cell (p := ⟨g, off + j * 6 + 2, none⟩) hg).trans (hcells j x hx 2 _ rfl)
        have q3 := (hb.cell (p := ⟨g, off + j * 6 + 3, none⟩) hg).trans (hcells j x hx 3 _ rfl)
        have q4 := (hb.cell (p := ⟨g, off + j * 6 + 4, none⟩) hg).trans (hcells j x hx 4 _ rfl)
        have q5 := (hb.cell (p := ⟨g, off + j * 6 + 5, none⟩) hg).trans (hcells j x hx 5 _ rfl)
        rw [Nat.add_zero] at q0
        have hb1 : Below wr.heap.size wr (wr.alloc (.cells #[.int .i64 x.1.kind, .int .i64 x.1.n, slv x.2.vb, slv x.2.vt, slv x.2.vy, slv x.2.vl] 54)) := (Below.refl _ _).alloc (Nat.le_refl _) _
        have hrep : CfRep B (wr.alloc (.cells #[.int .i64 x.1.kind, .int .i64 x.1.n, slv x.2.vb, slv x.2.vt, slv x.2.vy, slv x.2.vl] 54)) x.2 x.1 := ((HR.out x (List.mem_of_getElem? hx)).below hb).below hb1
        have C := build_any _ B (Nat.le_trans hB (Nat.le_trans hb.size hb1.size)) x.1 x.2 hrep
        have hcm : (l.map (·.1))[j]? = some x.1 := by rw [List.getElem?_map, hx]; rfl
        have y0 : wr.cell? ⟨w.heap.size, 0, none⟩ = some (.slice vd.1 vd.2.1 vd.2.2) := (cell_of hmk.cells 0).trans rfl
        have HX := Lib.hid hx
        have HCM := Lib.hid hcm
        have HB := Lib.hid hb
        have HB1 := Lib.hid hb1
        have HALL := Lib.hid hall
        have HMK := Lib.hid hmk
        have HVL := Lib.hid hvl
        obtain ⟨xc, xv⟩ := x
        obtain ⟨kind, nn, bad, times, chars, lost⟩ := xc
        obtain ⟨⟨vb1, vb2, vb3⟩, ⟨vt1, vt2, vt3⟩, ⟨vy1, vy2, vy3⟩, ⟨vl1, vl2, vl3⟩⟩ := xv
        dsimp only at q0 q1 q2 q3 q4 q5 C
        rcases hbf : buildF ⟨kind, nn, bad, times, chars, lost⟩ with _ | p
        · as_aux_lemma =>
            rw [hbf] at C
            have C35 := Lib.hid C
            have HBF := Lib.hid hbf
            clear hx hcm hb hb1 hrep hcells hall hmk hvl C hbf y0
            go_wp2_with (go_at_call 35; (refine (C35.out).mono ?_); rintro e w' ⟨he, hb'⟩; (have he : e = .returned .nilIface := he); subst he; have HB' := Lib.hid hb'; clear hb')
            go_ret2
            have h1 := HB.out.trans (HB1.out.mono HB.out.size)
            exact ⟨.inl ⟨rfl, _, List.mem_of_getElem? HCM.out, HBF.out⟩, h1.trans (HB'.out.mono h1.size)⟩
        · as_aux_lemma =>
            rw [hbf] at C
            have C35 := Lib.hid C
            have HBF := Lib.hid hbf
            clear hx hcm hb hb1 hrep hcells hall hmk hvl C hbf y0
            go_wp2_with (first | (go_at_call 35; (refine (C35.out).mono ?_); rintro e w' ⟨⟨ty, iv, S, rfl, hD, hfr⟩, hb'⟩; have hbw := HB1.out.trans (hb'.mono HB1.out.size); have hc' := (hbw.block _ (blt HMK.out.cells)).trans HMK.out.cells; have y0 : w'.cell? ⟨w.heap.size, 0, none⟩ = some (.slice vd.1 vd.2.1 vd.2.2) := (cell_of hc' 0).trans rfl; have hrow' := own_keep HMK.out.row (fun k _ hl => hbw.block k hl); have HC' := Lib.hid hc'; have HBW := Lib.hid hbw; have HD := Lib.hid hD; have HFR := Lib.hid hfr; have HROW' := Lib.hid hrow'; clear hb' hD hc' hfr hbw hrow') |
              (at_builtin; refine wpList_append_any _ rfl _ _ 77 rfl w.heap.size 84 i0 .nilIface 1 16 Try.underlying77 hi hz0 hz1 hz2 rfl (by decide) (slv vd) vs.length vs rfl (own_keep HROW'.out fun k _ hl => Below.heap_alloc w' _ k hl) _ (some ⟨_, 0, none⟩) 1 1 [.iface ty iv] rfl (new_reads _ _ _) (one_iface _ _) (by have := HVL.out; have := HN5.out; unfold maxLen; omega) (by have := HVL.out; have := HN5.out; omega) (by have h1 := HB.out.size; have h2 := HBW.out.size; simp only [World.size_alloc]; omega) ?_; intro v' w3 hrow3 hgrow3 hloc3; (obtain ⟨A', c', rfl⟩ := own_form hrow3); have hd3 := (hgrow3.block _ (blt (alloc_old HC'.out _)) (fun e => own_ty HROW'.out HC'.out (by decide) e.symm)).trans (alloc_old HC'.out _); have y1 : w3.cell? ⟨w.heap.size, 0, none⟩ = some (.slice vd.1 vd.2.1 vd.2.2) := (cell_of hd3 0).trans rfl; have y2 : w3.frozen? ⟨w.heap.size, 0, none⟩ = false := free_of hd3 0; have HD3 := Lib.hid hd3; have HROW3 := Lib.hid hrow3; have HGROW3 := Lib.hid hgrow3; clear hloc3 hrow3 hgrow3 hd3))
            case roundEnd =>
              have e : wrap64 ((j : Int) + 1) = ((j + 1 : Nat) : Int) := by
                have := HN5.out
                unfold wrap64; omega
              have hvl := HVL.out
              have hw : ∀ k, k < w'.heap.size → ¬ (k = w.heap.size ∨ (slv vd).ownBlock = some k) → (w3.setCell ⟨w.heap.size, 0, none⟩ (.slice A' (vs.length + 1) c')).heap[k]? = w'.heap[k]? := fun k hk hne => (Below.heap_setCell w3 _ _ _ (fun e => hne (.inl e))).trans ((HGROW3.out.block k (by rw [World.size_alloc]; omega) (fun e => hne (.inr e.symm))).trans (Below.heap_alloc w' _ k hk))
              have hcb := set_same HD3.out 0 (.slice A' (vs.length + 1) c')
              have hmk2 := HMK.out.add (vd' := (A', vs.length + 1, c')) (w' := w3.setCell ⟨w.heap.size, 0, none⟩ (.slice A' (vs.length + 1) c')) HBW.out HD.out (fun k hk => Nat.le_trans HB1.out.size (HFR.out k hk)) (by simpa using hcb) (own_keep HROW3.out fun k hk _ => Below.heap_setCell w3 _ _ _ (fun e => by
                have e : k = w.heap.size := e
                subst e
                exact own_ty HROW3.out HD3.out (by decide) hk)) hw
              refine ⟨⟨j + 1, _, _, _, _, hlt, by first | rw [e] | rfl, by rw [List.length_append, hvl]; rfl, ?_, hmk2, ?_⟩, ?_⟩
              · have : (l.map (·.1)).take (j + 1) = (l.map (·.1)).take j ++ [⟨kind, nn, bad, times, chars, lost⟩] := by
                  rw [List.take_add_one, HCM.out]; rfl
                rw [this]
                exact HALL.out.snoc HBF.out
              · have h1 := HB.out.trans (HBW.out.mono HB.out.size)
                refine Below.setCell (B := w.heap.size) (p := ⟨w.heap.size, 0, none⟩) ?_ (Nat.le_refl _) _
                exact (h1.alloc h1.size _).grown HGROW3.out (by rw [World.size_alloc]; have := h1.size; omega) (fun k hk => (own_block HMK.out.row hk).1)
              · first | rw [e] | skip
                show n - (j + 1) < n - j
                omega
    · as_aux_lemma =>
        have hjn : j = n := by omega
        subst hjn
        have hd : decide ((j : Int) < (j : Int)) = false := by simp
        have HALL := Lib.hid hall
        have HMK := Lib.hid hmk
        have HB := Lib.hid hb
        have HVL := Lib.hid hvl
        clear hall hmk hb hvl
        go_wp2_with fail
        go_ret2
        refine ⟨.inr ⟨rfl, ds, Ss, vd, vs, ?_, HMK.out⟩, HB.out⟩
        have := HALL.out
        rwa [List.take_of_length_le (by rw [List.length_map, ← HNL.out]; exact Nat.le_refl _)] at this
end Go.Proofs.Ytkdnkjjnmadhgaa.Dev
