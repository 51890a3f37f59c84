import Derived.Test.YtkdnkjjnmadhgaaDC
set_option linter.unusedVariables false
set_option linter.unusedSimpArgs false
/-! slices.stableCmpFunc. -/
namespace Go.Proofs.Ytkdnkjjnmadhgaa.Dev
open Go.Shelf Go.RowKit Go.Lib Go.Sort Go.Proofs

section
variable {α : Type} [Inhabited α] {lt : α → α → Bool}
theorem dvd_gap {s x a : Nat} (hx : s ∣ x) (ha : s ∣ a) (h : x < a) : x + s ≤ a := by
  have := Nat.le_of_dvd (by omega) (Nat.dvd_sub ha hx)
  omega
theorem sorted_empty {a b : Nat} {d : Array α} (h : b ≤ a) : SortedIn lt a b d := fun x y h1 h2 h3 => by omega
theorem perm_sorted {a b x y : Nat} {d d' : Array α} (h : SortedIn lt x y d) (hp : PermIn a b d d') (hd : y ≤ a ∨ b ≤ x) : SortedIn lt x y d' :=
  sorted_keep h (fun t h1 h2 => hp.2.1 t (by omega))
/-- Blocks of s behind a are sorted; ahead of a those of the greater length u. -/
structure Blk (lt : α → α → Bool) (u s a n : Nat) (d : Array α) : Prop where
  low : ∀ x, u ∣ x → x < a → SortedIn lt x (x + u) d
  high : ∀ x, s ∣ x → a ≤ x → SortedIn lt x (min (x + s) n) d
/-- All blocks of s are sorted. -/
def Blks (lt : α → α → Bool) (s n : Nat) (d : Array α) : Prop := ∀ x, s ∣ x → SortedIn lt x (min (x + s) n) d
/-- The first phase: blocks ahead of a are sorted. -/
def Fst (lt : α → α → Bool) (s a : Nat) (d : Array α) : Prop := ∀ x, s ∣ x → x < a → SortedIn lt x (x + s) d
theorem fst_step {s a : Nat} {d d' : Array α} (ha : s ∣ a) (h : Fst lt s a d) (k : Mg lt a (a + s) d d') : Fst lt s (a + s) d' := fun x hx hxa => by
  by_cases e : x = a
  · subst e; exact k.sorted
  · by_cases e2 : x < a
    · exact perm_sorted (h x hx e2) k.perm (.inl (dvd_gap hx ha e2))
    · have := dvd_gap ha hx (by omega : a < x)
      omega
theorem fst_end {s a n : Nat} {d d' : Array α} (hs : 0 < s) (ha : s ∣ a) (han : a ≤ n) (hn : n < a + s) (h : Fst lt s a d) (k : Mg lt a n d d') : Blks lt s n d' := fun x hx => by
  by_cases e : x = a
  · subst e; rw [Nat.min_eq_right (by omega)]; exact k.sorted
  · by_cases e2 : x < a
    · have h3 := dvd_gap hx ha e2
      rw [Nat.min_eq_left (by omega)]
      exact perm_sorted (h x hx e2) k.perm (.inl h3)
    · have h3 := dvd_gap ha hx (by omega : a < x)
      exact sorted_empty (by omega)
theorem blk_start {s n : Nat} {d : Array α} (h : Blks lt s n d) (u : Nat) : Blk lt u s 0 n d := ⟨fun x _ h1 => by omega, fun x hx _ => h x hx⟩
theorem blk_step {s a n : Nat} {d d' : Array α} (hs : 0 < s) (ha : 2 * s ∣ a) (han : a + 2 * s ≤ n) (h : Blk lt (2 * s) s a n d) (k : Mg lt a (a + 2 * s) d d') : Blk lt (2 * s) s (a + 2 * s) n d' := by
  refine ⟨fun x hx hxa => ?_, fun x hx hxa => perm_sorted (h.high x hx (by omega)) k.perm (.inr hxa)⟩
  by_cases e : x = a
  · subst e; exact k.sorted
  · by_cases e2 : x < a
    · exact perm_sorted (h.low x hx e2) k.perm (.inl (dvd_gap hx ha e2))
    · have := dvd_gap ha hx (by omega : a < x)
      omega
theorem blk_two {s a n : Nat} {d : Array α} (hs : 0 < s) (ha : 2 * s ∣ a) (h : Blk lt (2 * s) s a n d) : SortedIn lt a (min (a + s) n) d ∧ SortedIn lt (a + s) (min (a + 2 * s) n) d := by
  have hd : s ∣ a := Nat.dvd_trans ⟨2, by omega⟩ ha
  refine ⟨h.high a hd (Nat.le_refl _), ?_⟩
  have := h.high (a + s) (Nat.dvd_add hd (Nat.dvd_refl s)) (by omega)
  rwa [show a + s + s = a + 2 * s from by omega] at this
theorem blk_end {s a n : Nat} {d d' : Array α} (hs : 0 < s) (ha : 2 * s ∣ a) (han : a ≤ n) (hn : n < a + 2 * s) (h : Blk lt (2 * s) s a n d) (k : Mg lt a n d d') : Blks lt (2 * s) n d' := fun x hx => by
  by_cases e : x = a
  · subst e; rw [Nat.min_eq_right (by omega)]; exact k.sorted
  · by_cases e2 : x < a
    · have h3 := dvd_gap hx ha e2
      rw [Nat.min_eq_left (by omega)]
      exact perm_sorted (h.low x hx e2) k.perm (.inl h3)
    · have h3 := dvd_gap ha hx (by omega : a < x)
      exact sorted_empty (by omega)
end

section
variable {P : Program} {α : Type} [Inhabited α]
/-- The insertion sort's contract. -/
def InsAt (P : Program) (lt : α → α → Bool) (enc : α → List Value) (k g : Nat) (cb : Array Value) (blk off cap n : Nat) (w0 : World) : Prop := ∀ (a b : Nat) (d : Array α) (w : World), d.size = n → SWK enc k w0 blk off d w → a ≤ b → b ≤ n →
  Calls P 70 #[.slice (some ⟨blk, off, none⟩) n cap, .int .i64 a, .int .i64 b, .func (.func g) #[] cb] w fun e w' => e = .returned (.tuple #[]) ∧ ∃ dk, Mg lt a b d dk ∧ SWK enc k w0 blk off dk w'

set_option maxHeartbeats 8000000 in
set_option maxRecDepth 1000000 in
theorem stable_any (L : StL P) (f70 : ∀ args w, (callFunc 70 args).run P w = .ok (.enter 70 args) w) (k : Nat) (aE : ∀ w, (isAgg 95).run P w = .ok true w) (zE : ∀ w, (Go.sizeOf 95).run P w = .ok k w) (enc : α → List Value) (cf : α → α → Int) (hO : SWO (ltOf cf)) (g : Nat) (cb : Array Value) (blk off cap n : Nat) (d0 : Array α) (w0 : World)
    (eg : ∀ args w, (callFunc g args).run P w = .ok (.enter g args) w) (hcmp : CmpLays P g cb enc k cf blk off d0.size w0) (R : RowK enc k w0 blk off d0) (hn0 : d0.size = n) (hsz : n < 1000000000) (hI : InsAt P (ltOf cf) enc k g cb blk off cap n w0) :
    Calls P 61 #[.slice (some ⟨blk, off, none⟩) n cap, .int .i64 n, .func (.func g) #[] cb] w0 fun e w' => e = .returned (.tuple #[]) ∧ ∃ dk, Mg (ltOf cf) 0 n d0 dk ∧ SWK enc k w0 blk off dk w' := by
  have C71 := Lib.hid (fun (a m b : Nat) (d : Array α) (w : World) => merge_any L k aE zE enc cf hO g cb blk off cap n d0 w0 eg hcmp R hn0 (by omega) (b - a) a m b d w (Nat.le_refl _))
  have C70 := Lib.hid hI
  have mixed := L.mixed; have t0 := L.t0; have a0 := L.a0; have z0 := L.z0; have v0 := L.v0; have t3 := L.t3; have a3 := L.a3; have z3 := L.z3; have v3 := L.v3; have t4 := L.t4; have a4 := L.a4; have z4 := L.z4; have v4 := L.v4; have t78 := L.t78; have a78 := L.a78; have z78 := L.z78; have v78 := L.v78; have t103 := L.t103; have a103 := L.a103; have z103 := L.z103; have v103 := L.v103
  have F := L.f61
  have e71 : ∀ args w, (callFunc 71 args).run P w = .ok (.enter 71 args) w := enters_of L.f71 (by decide) rfl
  have S0 : Aside (SWK enc k w0 blk off d0 w0) := SWK.start R.hH
  have HN : Aside (d0.size = n) := hn0
  clear hI hcmp hn0
  go_enter F, Try.ntmps61
  go_wp2
  go_loopg [7, 8] n (fun kx s7 s8 wr => ∃ (a : Nat) (d : Array α), s7 = .int .i64 a ∧ s8 = .int .i64 ((a + 20 : Nat) : Int) ∧ a ≤ n ∧ n - a ≤ kx ∧ Aside (20 ∣ a ∧ PermIn 0 n d0 d ∧ Fst (ltOf cf) 20 a d ∧ SWK enc k w0 blk off d wr))
  case atStart => exact ⟨0, d0, rfl, rfl, by omega, by omega, ⟨0, rfl⟩, permIn_refl _ _ _, fun x _ h => by omega, S0⟩
  case round =>
    clear S0
    obtain ⟨a, d, rfl, rfl, han, hkx, X⟩ := hrel
    by_cases hlt : a + 20 ≤ n
    · have hltz : ((a + 20 : Nat) : Int) ≤ (n : Int) := by omega
      go_wp2_with (go_at_fn 70; (refine (C70.out a (a + 20) d _ (X.out.2.1.1.trans HN.out) X.out.2.2.2 (by omega) hlt).mono ?_); rintro e9 w9 ⟨rfl, d2, M2, S2⟩; have HM2 := Lib.hid M2; have HS2 := Lib.hid S2; clear M2 S2)
      go_roundg (n - (a + 20))
      case measure => omega
      case rel => exact ⟨a + 20, d2, by go_num, by go_num, by omega, by omega, Nat.dvd_add X.out.1 ⟨1, rfl⟩, permIn_trans _ _ _ _ _ X.out.2.1 (permIn_mono _ _ a (a + 20) 0 n (by omega) (by omega) (by have := X.out.2.1.1; have := HN.out; omega) HM2.out.perm), fst_step X.out.1 X.out.2.2.1 HM2.out, HS2.out⟩
    · have hltz : ¬ ((a + 20 : Nat) : Int) ≤ (n : Int) := by omega
      go_wp2_with (go_at_fn 70; (refine (C70.out a n d _ (X.out.2.1.1.trans HN.out) X.out.2.2.2 han (Nat.le_refl _)).mono ?_); rintro e9 w9 ⟨rfl, d2, M2, S2⟩; have HM2 := Lib.hid M2; have HS2 := Lib.hid S2; clear M2 S2)
      have B0 : Aside (Blks (ltOf cf) 20 n d2 ∧ PermIn 0 n d0 d2) := ⟨fst_end (by omega) X.out.1 han (by omega) X.out.2.2.1 HM2.out, permIn_trans _ _ _ _ _ X.out.2.1 (permIn_mono _ _ a n 0 n (by omega) (by omega) (by have := X.out.2.1.1; have := HN.out; omega) HM2.out.perm)⟩
      clear X HM2
      go_loopg [6, 7, 8, 9] n (fun kx s6 s7 s8 s9 wr => ∃ (s : Nat) (d : Array α), s6 = .int .i64 s ∧ 0 < s ∧ s ≤ 2 * n + 20 ∧ n - s ≤ kx ∧ Aside (Blks (ltOf cf) s n d ∧ PermIn 0 n d0 d ∧ SWK enc k w0 blk off d wr))
      case atStart => exact ⟨20, d2, rfl, by omega, by omega, by omega, B0.out.1, B0.out.2, HS2.out⟩
      case round =>
        clear B0 HS2
        obtain ⟨s, d, rfl, hs0, hs1, hkx, X⟩ := hrel
        by_cases hlt2 : s < n
        · have hltz2 : (s : Int) < (n : Int) := by omega
          go_wp2_with fail
          go_loopg [7, 8] n (fun kx s7 s8 wr => ∃ (a : Nat) (d : Array α), s7 = .int .i64 a ∧ s8 = .int .i64 ((a + 2 * s : Nat) : Int) ∧ a ≤ n ∧ n - a ≤ kx ∧ Aside (2 * s ∣ a ∧ PermIn 0 n d0 d ∧ Blk (ltOf cf) (2 * s) s a n d ∧ SWK enc k w0 blk off d wr))
          case atStart => exact ⟨0, d, rfl, by go_num, by omega, by omega, ⟨0, rfl⟩, X.out.2.1, blk_start X.out.1 _, X.out.2.2⟩
          case round =>
            clear X
            obtain ⟨a, d, rfl, rfl, han, hkx2, X⟩ := hrel
            by_cases hlt3 : a + 2 * s ≤ n
            · have hltz3 : ((a + 2 * s : Nat) : Int) ≤ (n : Int) := by omega
              have TW := Lib.hid (blk_two hs0 X.out.1 X.out.2.2.1)
              go_wp2_with (go_at_fn 71; (refine (C71.out a (a + s) (a + 2 * s) d _ (X.out.2.1.1.trans HN.out) X.out.2.2.2 (by omega) (by omega) hlt3 (by have := TW.out.1; rwa [Nat.min_eq_left (by omega)] at this) (by have := TW.out.2; rwa [Nat.min_eq_left hlt3] at this)).mono ?_); rintro e9 w9 ⟨rfl, d2, M2, S2⟩; have HM2 := Lib.hid M2; have HS2 := Lib.hid S2; clear M2 S2)
              go_roundg (n - (a + 2 * s))
              case measure => omega
              case rel => exact ⟨a + 2 * s, d2, by go_num, by go_num, by omega, by omega, Nat.dvd_add X.out.1 (Nat.dvd_refl _), permIn_trans _ _ _ _ _ X.out.2.1 (permIn_mono _ _ a (a + 2 * s) 0 n (by omega) (by omega) (by have := X.out.2.1.1; have := HN.out; omega) HM2.out.perm), blk_step hs0 X.out.1 hlt3 X.out.2.2.1 HM2.out, HS2.out⟩
            · have hltz3 : ¬ ((a + 2 * s : Nat) : Int) ≤ (n : Int) := by omega
              have TW := Lib.hid (blk_two hs0 X.out.1 X.out.2.2.1)
              by_cases hm : a + s < n
              · have hmz : (a : Int) + (s : Int) < (n : Int) := by omega
                go_wp2_with (go_at_fn 71; (refine (C71.out a (a + s) n d _ (X.out.2.1.1.trans HN.out) X.out.2.2.2 (by omega) hm (Nat.le_refl _) (by have := TW.out.1; rwa [Nat.min_eq_left (by omega)] at this) (by have := TW.out.2; rwa [Nat.min_eq_right (by omega)] at this)).mono ?_); rintro e9 w9 ⟨rfl, d2, M2, S2⟩; have HM2 := Lib.hid M2; have HS2 := Lib.hid S2; clear M2 S2)
                go_roundg (n - 2 * s)
                case measure => omega
                case rel => exact ⟨2 * s, d2, by go_num, by omega, by omega, by omega, blk_end hs0 X.out.1 han (by omega) X.out.2.2.1 HM2.out, permIn_trans _ _ _ _ _ X.out.2.1 (permIn_mono _ _ a n 0 n (by omega) (by omega) (by have := X.out.2.1.1; have := HN.out; omega) HM2.out.perm), HS2.out⟩
              · have hmz : ¬ (a : Int) + (s : Int) < (n : Int) := by omega
                have M0 : Aside (Mg (ltOf cf) a n d d) := ⟨permIn_refl _ _ _, by have := TW.out.1; rwa [Nat.min_eq_right (by omega)] at this⟩
                go_wp2_with fail
                go_roundg (n - 2 * s)
                case measure => omega
                case rel => exact ⟨2 * s, d, by go_num, by omega, by omega, by omega, blk_end hs0 X.out.1 han (by omega) X.out.2.2.1 M0.out, X.out.2.1, X.out.2.2.2⟩
        · have hltz2 : ¬ (s : Int) < (n : Int) := by omega
          go_wp2_with fail
          go_end0
          refine ⟨rfl, d, ⟨X.out.2.1, ?_⟩, X.out.2.2⟩
          have := X.out.1 0 ⟨0, rfl⟩
          rwa [Nat.min_eq_right (by omega)] at this
end
end Go.Proofs.Ytkdnkjjnmadhgaa.Dev
