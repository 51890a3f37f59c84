import Derived.Test.YtkdnkjjnmadhgaaProg
import Derived.Shelf.SlSortCmp.PdqK
import Derived.WalkKit
import Derived.BigQuiet
import Derived.BigRegion
import Derived.Deep.QuietTactic
import Derived.Deep.LoopGhost
import Derived.Lib.Hide
set_option linter.unusedVariables false
set_option linter.unusedSimpArgs false
/-! slices.SortStableFunc's family at elements of k cells: exchanges of stretches, rotations. -/
namespace Go.Proofs.Ytkdnkjjnmadhgaa.Dev
open Go.Shelf Go.RowKit Go.Lib Go.Sort Go.Proofs

/-- What the family leans on in a program (its element's size left open). -/
structure StL (P : Program) : Prop where
  mixed : P.follows .mixedOrders = true
  f71 : P.funcs[71]? = some Try.f71
  f72 : P.funcs[72]? = some Try.f72
  f73 : P.funcs[73]? = some Try.f73
  f61 : P.funcs[61]? = some Try.f61
  t0 : P.underlying 0 = some (TypeDesc.tuple #[])
  a0 : ∀ w, (isAgg 0).run P w = .ok false w
  z0 : ∀ w, (Go.sizeOf 0).run P w = .ok 1 w
  v0 : ∀ w, (zeroValue 0).run P w = .ok (Value.tuple #[]) w
  t3 : P.underlying 3 = some (TypeDesc.int IntKind.i64)
  a3 : ∀ w, (isAgg 3).run P w = .ok false w
  z3 : ∀ w, (Go.sizeOf 3).run P w = .ok 1 w
  v3 : ∀ w, (zeroValue 3).run P w = .ok (Value.int IntKind.i64 0) w
  t4 : P.underlying 4 = some (TypeDesc.bool)
  a4 : ∀ w, (isAgg 4).run P w = .ok false w
  z4 : ∀ w, (Go.sizeOf 4).run P w = .ok 1 w
  v4 : ∀ w, (zeroValue 4).run P w = .ok (Value.bool false) w
  t78 : P.underlying 78 = some (TypeDesc.slice 95)
  a78 : ∀ w, (isAgg 78).run P w = .ok false w
  z78 : ∀ w, (Go.sizeOf 78).run P w = .ok 1 w
  v78 : ∀ w, (zeroValue 78).run P w = .ok (Value.slice none 0 0) w
  t103 : P.underlying 103 = some (TypeDesc.func #[95, 95] #[3] false)
  a103 : ∀ w, (isAgg 103).run P w = .ok false w
  z103 : ∀ w, (Go.sizeOf 103).run P w = .ok 1 w
  v103 : ∀ w, (zeroValue 103).run P w = .ok (Value.nilFunc) w
  t138 : P.underlying 138 = some (TypeDesc.int IntKind.u64)
  a138 : ∀ w, (isAgg 138).run P w = .ok false w
  z138 : ∀ w, (Go.sizeOf 138).run P w = .ok 1 w
  v138 : ∀ w, (zeroValue 138).run P w = .ok (Value.int IntKind.u64 0) w

/-- The stretches [a, a + n) and [b, b + n) exchanged. -/
def swapF {α : Type} (f : Nat → α) (a b n : Nat) : Nat → α := fun t => if a ≤ t ∧ t < a + n then f (t + (b - a)) else if b ≤ t ∧ t < b + n then f (t - (b - a)) else f t
/-- [a, m) and [m, b) in the other order. -/
def rotF {α : Type} (f : Nat → α) (a m b : Nat) : Nat → α := fun t => if a ≤ t ∧ t < a + (b - m) then f (t + (m - a)) else if a + (b - m) ≤ t ∧ t < b then f (t - (b - m)) else f t
theorem swapF_zero {α : Type} (f : Nat → α) (a b : Nat) : swapF f a b 0 = f := by
  funext t
  unfold swapF
  rw [if_neg (by omega), if_neg (by omega)]
theorem rot_left {α : Type} (f : Nat → α) (i j m : Nat) (hi : i ≤ m) (hij : j < i) : rotF (swapF f (m - i) m j) (m - (i - j)) m (m + j) = rotF f (m - i) m (m + j) := by
  funext t
  unfold rotF swapF
  repeat' split
  all_goals first | (exfalso; omega) | rfl | exact congrArg f (by omega)
theorem rot_right {α : Type} (f : Nat → α) (i j m : Nat) (hi : i ≤ m) (hij : i < j) : rotF (swapF f (m - i) (m + j - i) i) (m - i) m (m + (j - i)) = rotF f (m - i) m (m + j) := by
  funext t
  unfold rotF swapF
  repeat' split
  all_goals first | (exfalso; omega) | rfl | exact congrArg f (by omega)
theorem rot_end {α : Type} (f : Nat → α) (i m : Nat) (hi : i ≤ m) : swapF f (m - i) m i = rotF f (m - i) m (m + i) := by
  funext t
  unfold rotF swapF
  repeat' split
  all_goals first | (exfalso; omega) | rfl | exact congrArg f (by omega)

section
variable {P : Program} {α : Type} [Inhabited α]
/-- What is behind n exchanges. -/
structure SwapTo (d : Array α) (a b n : Nat) (dk : Array α) : Prop where
  size : dk.size = d.size
  perm : PermIn a (b + n) d dk
  at_ : ∀ t, dk[t]! = swapF (fun t => d[t]!) a b n t
theorem swapTo_zero (d : Array α) (a b : Nat) : SwapTo d a b 0 d := ⟨rfl, permIn_refl _ _ _, fun t => by rw [swapF_zero]⟩
theorem swapTo_step {d dk : Array α} {a b n : Nat} (h : SwapTo d a b n dk) (hab : a + n < b) (hb : b + n < d.size) : SwapTo d a b (n + 1) (swp dk (a + n) (b + n)) := by
  have hs := h.size
  refine ⟨by rw [size_swp]; exact hs, ?_, fun t => ?_⟩
  · refine permIn_trans _ _ _ _ _ (permIn_mono _ _ a (b + n) a (b + (n + 1)) (Nat.le_refl _) (by omega) (by omega) h.perm) (swp_permIn dk a (b + (n + 1)) (a + n) (b + n) (by omega) (by omega) (by omega) (by omega) (by omega))
  · rw [swp_get dk (by omega) (by omega), h.at_, h.at_, h.at_]
    unfold swapF
    repeat' split
    all_goals first | (exfalso; omega) | rfl | exact congrArg (fun t => d[t]!) (by omega)

set_option maxHeartbeats 4000000 in
set_option maxRecDepth 1000000 in
theorem swapRange_any (L : StL P) (k : Nat) (aE : ∀ w, (isAgg 95).run P w = .ok true w) (zE : ∀ w, (Go.sizeOf 95).run P w = .ok k w) (enc : α → List Value) (g : Nat) (cb : Array Value) (blk off cap a b n : Nat) (d0 d : Array α) (w0 w : World)
    (R : RowK enc k w0 blk off d0) (hs : d0.size = d.size) (S : SWK enc k w0 blk off d w) (hab : a + n ≤ b) (hb : b + n ≤ d.size) (hsz : d.size < 4611686018427387904) :
    Calls P 73 #[.slice (some ⟨blk, off, none⟩) d.size cap, .int .i64 a, .int .i64 b, .int .i64 n, .func (.func g) #[] cb] w fun e w' => e = .returned (.tuple #[]) ∧ ∃ dk, SwapTo d a b n dk ∧ SWK enc k w0 blk off dk w' := by
  have mixed := L.mixed; have t0 := L.t0; have a0 := L.a0; have z0 := L.z0; have v0 := L.v0; have t3 := L.t3; have a3 := L.a3; have z3 := L.z3; have v3 := L.v3; have t4 := L.t4; have a4 := L.a4; have z4 := L.z4; have v4 := L.v4; have t78 := L.t78; have a78 := L.a78; have z78 := L.z78; have v78 := L.v78; have t103 := L.t103; have a103 := L.a103; have z103 := L.z103; have v103 := L.v103
  have F := L.f73
  have S0 : Aside (SWK enc k w0 blk off d w) := S
  clear S
  go_enter F, Try.ntmps73
  go_wp2
  go_loopg [10] n (fun kx s10 wr => ∃ (i : Nat) (dk : Array α), s10 = .int .i64 i ∧ i ≤ n ∧ n - i ≤ kx ∧ Aside (SwapTo d a b i dk) ∧ Aside (SWK enc k w0 blk off dk wr))
  case atStart => exact ⟨0, d, rfl, by omega, by omega, swapTo_zero _ _ _, S0⟩
  case round =>
    clear S0
    obtain ⟨i, dk, rfl, hin, hkx, T1, S1⟩ := hrel
    have hds := T1.out.size
    by_cases hlt : i < n
    · have hltz : (i : Int) < (n : Int) := by omega
      go_wp2_with fail
      have ea : ((a : Int) + (i : Int)).toNat = a + i := by omega
      have pa : (0 : Int) ≤ (a : Int) + (i : Int) := by omega
      have ba : (a : Int) + (i : Int) < (d.size : Int) := by omega
      have ra : IntKind.i64.wrap ((a : Int) + (i : Int)) = (a : Int) + (i : Int) := by rw [IntKind.wrap_i64]; omega
      have ec : ((b : Int) + (i : Int)).toNat = b + i := by omega
      have pc : (0 : Int) ≤ (b : Int) + (i : Int) := by omega
      have bc : (b : Int) + (i : Int) < (d.size : Int) := by omega
      have rc : IntKind.i64.wrap ((b : Int) + (i : Int)) = (b : Int) + (i : Int) := by rw [IntKind.wrap_i64]; omega
      have T2 : Aside (SwapTo d a b (i + 1) (swp dk (a + i) (b + i))) := swapTo_step T1.out (by omega) (by omega)
      have S2 : Aside (SWK enc k w0 blk off (swp dk (a + i) (b + i)) ((wr.drew.setCells blk (off + (a + i) * k) (enc dk[b + i]!)).setCells blk (off + (b + i) * k) (enc dk[a + i]!))) := S1.out.swapped R (a + i) (b + i) (by omega) (by omega)
      have l1 := S1.out.ld1 R (by omega) P (a + i) (by omega)
      have l2 := S1.out.ld1 R (by omega) P (b + i) (by omega)
      have s1 := S1.out.st1 R (by omega) P (a + i) (by omega) dk[b + i]!
      have s2 := S1.out.st2 R (by omega) P (a + i) (b + i) (by omega) (by omega) dk[b + i]! dk[a + i]!
      have n1 : (enc dk[a + i]!).length = k := R.hk _
      have n2 : (enc dk[b + i]!).length = k := R.hk _
      generalize enc dk[a + i]! = cI at S2 l1 s2 n1
      generalize enc dk[b + i]! = cJ at S2 l2 s1 s2 n2
      clear S1 T1
      go_wp2_with fail
      go_big_region_o
      clear l1 l2 s1 s2
      generalize (wr.drew.setCells blk (off + (a + i) * k) cJ).setCells blk (off + (b + i) * k) cI = w2 at S2 ⊢
      go_wp2
      go_roundg (n - (i + 1))
      case measure => omega
      case rel => exact ⟨i + 1, swp dk (a + i) (b + i), by go_num, by omega, by omega, T2, S2⟩
    · have hnn : i = n := by omega
      subst hnn
      go_wp2
      go_end0
      exact ⟨rfl, dk, T1.out, S1.out⟩
/-- What is behind a rotation. -/
structure RotTo (d : Array α) (a m b : Nat) (dk : Array α) : Prop where
  size : dk.size = d.size
  perm : PermIn a b d dk
  at_ : ∀ t, dk[t]! = rotF (fun t => d[t]!) a m b t
/-- .. and on the way, with [m - i, m) and [m, m + j) still to be rotated. -/
structure RotOn (d : Array α) (a m b i j : Nat) (dk : Array α) : Prop where
  size : dk.size = d.size
  perm : PermIn a b d dk
  lo : 0 < i ∧ i ≤ m - a
  hi : 0 < j ∧ j ≤ b - m
  at_ : rotF (fun t => dk[t]!) (m - i) m (m + j) = rotF (fun t => d[t]!) a m b
theorem SwapTo.fn {d dk : Array α} {a b n : Nat} (h : SwapTo d a b n dk) : (fun t => dk[t]!) = swapF (fun t => d[t]!) a b n := funext h.at_
theorem rotOn_start (d : Array α) {a m b : Nat} (h1 : a < m) (h2 : m < b) : RotOn d a m b (m - a) (b - m) d :=
  ⟨rfl, permIn_refl _ _ _, ⟨by omega, Nat.le_refl _⟩, ⟨by omega, Nat.le_refl _⟩, by rw [show m - (m - a) = a from by omega, show m + (b - m) = b from by omega]⟩
theorem rotOn_left {d dk dk' : Array α} {a m b i j : Nat} (h : RotOn d a m b i j dk) (hij : j < i) (ham : a ≤ m) (hmb : m ≤ b) (hb : b ≤ d.size) (T : SwapTo dk (m - i) m j dk') : RotOn d a m b (i - j) j dk' := by
  have h1 := h.lo
  have h2 := h.hi
  refine ⟨T.size.trans h.size, permIn_trans _ _ _ _ _ h.perm (permIn_mono _ _ (m - i) (m + j) a b (by omega) (by omega) (by have := h.size; omega) T.perm), ⟨by omega, by omega⟩, h.hi, ?_⟩
  rw [T.fn, rot_left _ i j m (by omega) hij]
  exact h.at_
theorem rotOn_right {d dk dk' : Array α} {a m b i j : Nat} (h : RotOn d a m b i j dk) (hij : i < j) (ham : a ≤ m) (hmb : m ≤ b) (hb : b ≤ d.size) (T : SwapTo dk (m - i) (m + j - i) i dk') : RotOn d a m b i (j - i) dk' := by
  have h1 := h.lo
  have h2 := h.hi
  refine ⟨T.size.trans h.size, permIn_trans _ _ _ _ _ h.perm (permIn_mono _ _ (m - i) (m + j - i + i) a b (by omega) (by omega) (by have := h.size; omega) T.perm), h.lo, ⟨by omega, by omega⟩, ?_⟩
  rw [T.fn, rot_right _ i j m (by omega) hij]
  exact h.at_
theorem rotOn_end {d dk dk' : Array α} {a m b i : Nat} (h : RotOn d a m b i i dk) (ham : a ≤ m) (hmb : m ≤ b) (hb : b ≤ d.size) (T : SwapTo dk (m - i) m i dk') : RotTo d a m b dk' := by
  have h1 := h.lo
  have h2 := h.hi
  refine ⟨T.size.trans h.size, permIn_trans _ _ _ _ _ h.perm (permIn_mono _ _ (m - i) (m + i) a b (by omega) (by omega) (by have := h.size; omega) T.perm), fun t => ?_⟩
  rw [← h.at_, ← rot_end _ i m (by omega)]
  exact T.at_ t

set_option maxHeartbeats 4000000 in
set_option maxRecDepth 1000000 in
theorem rotate_any (L : StL P) (k : Nat) (aE : ∀ w, (isAgg 95).run P w = .ok true w) (zE : ∀ w, (Go.sizeOf 95).run P w = .ok k w) (enc : α → List Value) (g : Nat) (cb : Array Value) (blk off cap a m b : Nat) (d0 d : Array α) (w0 w : World)
    (R : RowK enc k w0 blk off d0) (hs : d0.size = d.size) (S : SWK enc k w0 blk off d w) (ham : a < m) (hmb : m < b) (hb : b ≤ d.size) (hsz : d.size < 4611686018427387904) :
    Calls P 72 #[.slice (some ⟨blk, off, none⟩) d.size cap, .int .i64 a, .int .i64 m, .int .i64 b, .func (.func g) #[] cb] w fun e w' => e = .returned (.tuple #[]) ∧ ∃ dk, RotTo d a m b dk ∧ SWK enc k w0 blk off dk w' := by
  have C73 := Lib.hid (fun (dk : Array α) (wr : World) (hdk : dk.size = d.size) (S1 : SWK enc k w0 blk off dk wr) (x y n : Nat) (h1 : x + n ≤ y) (h2 : y + n ≤ d.size) => show Calls P 73 #[.slice (some ⟨blk, off, none⟩) d.size cap, .int .i64 x, .int .i64 y, .int .i64 n, .func (.func g) #[] cb] wr fun e w' => e = .returned (.tuple #[]) ∧ ∃ dk', SwapTo dk x y n dk' ∧ SWK enc k w0 blk off dk' w' by
    have := swapRange_any L k aE zE enc g cb blk off cap x y n d0 dk w0 wr R (by omega) S1 h1 (by omega) (by omega)
    rwa [hdk] at this)
  have mixed := L.mixed; have t0 := L.t0; have a0 := L.a0; have z0 := L.z0; have v0 := L.v0; have t3 := L.t3; have a3 := L.a3; have z3 := L.z3; have v3 := L.v3; have t4 := L.t4; have a4 := L.a4; have z4 := L.z4; have v4 := L.v4; have t78 := L.t78; have a78 := L.a78; have z78 := L.z78; have v78 := L.v78; have t103 := L.t103; have a103 := L.a103; have z103 := L.z103; have v103 := L.v103
  have F := L.f72
  have e73 : ∀ args w, (callFunc 73 args).run P w = .ok (.enter 73 args) w := enters_of L.f73 (by decide) rfl
  have S0 : Aside (SWK enc k w0 blk off d w) := S
  have RO : Aside (RotOn d a m b (m - a) (b - m) d) := rotOn_start d ham hmb
  clear S R
  go_enter F, Try.ntmps72
  go_wp2
  go_loopg [10, 11] (b - a) (fun kx s10 s11 wr => ∃ (i j : Nat) (dk : Array α), s10 = .int .i64 i ∧ s11 = .int .i64 j ∧ i + j ≤ kx ∧ Aside (RotOn d a m b i j dk) ∧ Aside (SWK enc k w0 blk off dk wr))
  case atStart => exact ⟨m - a, b - m, d, by go_num, by go_num, by omega, RO, S0⟩
  case round =>
    clear S0 RO
    obtain ⟨i, j, dk, rfl, rfl, hkx, T1, S1⟩ := hrel
    have hds := T1.out.size
    have hlo := T1.out.lo
    have hhi := T1.out.hi
    by_cases heq : i = j
    · subst heq
      have hbq : ((i : Int) != (i : Int)) = false := by simp
      go_wp2_with (first | (go_at_fn 73; (have e1 : (m : Int) - (i : Int) = ((m - i : Nat) : Int) := by omega); rw [e1]; (refine (C73.out dk _ hds S1.out (m - i) m i (by omega) (by omega)).mono ?_); rintro e w' ⟨rfl, dk', T2, S2⟩; have HT := Lib.hid T2; have HS := Lib.hid S2; clear T2 S2))
      go_end0
      exact ⟨rfl, dk', rotOn_end T1.out (by omega) (by omega) hb HT.out, HS.out⟩
    · have hbq : ((i : Int) != (j : Int)) = true := by simp; omega
      by_cases hij : j < i
      · have hijz : (j : Int) < (i : Int) := by omega
        go_wp2_with (first | (go_at_fn 73; (have e1 : (m : Int) - (i : Int) = ((m - i : Nat) : Int) := by omega); rw [e1]; (refine (C73.out dk _ hds S1.out (m - i) m j (by omega) (by omega)).mono ?_); rintro e w' ⟨rfl, dk', T2, S2⟩; have HT := Lib.hid T2; have HS := Lib.hid S2; clear T2 S2))
        go_roundg (i - j + j)
        case measure => omega
        case rel => exact ⟨i - j, j, dk', by go_num, rfl, by omega, rotOn_left T1.out hij (by omega) (by omega) hb HT.out, HS.out⟩
      · have hijz : (i : Int) < (j : Int) := by omega
        go_wp2_with (first | (go_at_fn 73; (have e1 : (m : Int) - (i : Int) = ((m - i : Nat) : Int) := by omega); (have e2 : (m : Int) + (j : Int) - (i : Int) = ((m + j - i : Nat) : Int) := by omega); rw [e1, e2]; (refine (C73.out dk _ hds S1.out (m - i) (m + j - i) i (by omega) (by omega)).mono ?_); rintro e w' ⟨rfl, dk', T2, S2⟩; have HT := Lib.hid T2; have HS := Lib.hid S2; clear T2 S2))
        go_roundg (i + (j - i))
        case measure => omega
        case rel => exact ⟨i, j - i, dk', rfl, by go_num, by omega, rotOn_right T1.out (by omega) (by omega) (by omega) hb HT.out, HS.out⟩
end
end Go.Proofs.Ytkdnkjjnmadhgaa.Dev
