import Derived.Test.YtkdnkjjnmadhgaaDB
import Derived.Deep.Cut
import Derived.Deep.CutRange
set_option linter.unusedVariables false
set_option linter.unusedSimpArgs false
/-! slices.symMergeCmpFunc, whole; slices.stableCmpFunc. -/
namespace Go.Proofs.Ytkdnkjjnmadhgaa.Dev
open Go.Shelf Go.RowKit Go.Lib Go.Sort Go.Proofs

section
variable {α : Type} [Inhabited α] {lt : α → α → Bool}
/-- Nothing of [mid, b) is less than anything of [a, mid). -/
def Cross (lt : α → α → Bool) (a mid b : Nat) (d : Array α) : Prop := ∀ x y, a ≤ x → x < mid → mid ≤ y → y < b → lt d[y]! d[x]! = false
theorem cross_left {a mid b : Nat} {d d' : Array α} (h : Cross lt a mid b d) (hm : mid ≤ d.size) (hp : PermIn a mid d d') : Cross lt a mid b d' := fun x y h1 h2 h3 h4 => by
  have e := hp.2.1 y (.inr h3)
  rw [e]
  exact permIn_all d d' a mid (fun z => lt d[y]! z = false) hm hp (fun i h5 h6 => h i y h5 h6 h3 h4) x h1 h2
theorem cross_right {a mid b : Nat} {d d' : Array α} (h : Cross lt a mid b d) (hb : b ≤ d.size) (hp : PermIn mid b d d') : Cross lt a mid b d' := fun x y h1 h2 h3 h4 => by
  have e := hp.2.1 x (.inl h2)
  rw [e]
  exact permIn_all d d' mid b (fun z => lt z d[x]! = false) hb hp (fun i h5 h6 => h x i h1 h2 h5 h6) y h3 h4
theorem sorted_join {a mid b : Nat} {d : Array α} (h1 : SortedIn lt a mid d) (h2 : SortedIn lt mid b d) (h : Cross lt a mid b d) : SortedIn lt a b d := fun x y hx hxy hy => by
  by_cases c : y < mid
  · exact h1 x y hx hxy c
  · by_cases c2 : x < mid
    · exact h x y hx c2 (by omega) hy
    · exact h2 x y (by omega) hxy hy
theorem sorted_keep {a b : Nat} {d d' : Array α} (h : SortedIn lt a b d) (he : ∀ t, a ≤ t → t < b → d'[t]! = d[t]!) : SortedIn lt a b d' := fun x y hx hxy hy => by
  rw [he x hx (by omega), he y (by omega) hy]
  exact h x y hx hxy hy
/-- Where the two stretches are cut. -/
structure Cut (lt : α → α → Bool) (d : Array α) (a m b s e mid : Nat) : Prop where
  s1 : a ≤ s
  s2 : s ≤ m
  e1 : m ≤ e
  e2 : e ≤ b
  sum : s + e = mid + m
  c1 : e = b ∨ s = a ∨ lt d[e]! d[s - 1]! = false
  c2 : e = m ∨ s = m ∨ lt d[e - 1]! d[s]! = true
theorem cut_cross (hO : SWO lt) {d d1 : Array α} {a m b s e mid : Nat} (C : Cut lt d a m b s e mid) (h1 : SortedIn lt a m d) (h2 : SortedIn lt m b d) (hr : ∀ t, d1[t]! = rotF (fun t => d[t]!) s m e t) : Cross lt a mid b d1 := by
  have hs1 := C.s1; have hs2 := C.s2; have he1 := C.e1; have he2 := C.e2; have hsum := C.sum
  intro x y hx hxm hy hyb
  rw [hr, hr]
  unfold rotF
  by_cases cx : x < s
  · rw [if_neg (c := s ≤ x ∧ _) (by omega), if_neg (c := s + (e - m) ≤ x ∧ _) (by omega)]
    by_cases cy : y < e
    · rw [if_neg (by omega), if_pos (by omega)]
      exact h1 x (y - (e - m)) hx (by omega) (by omega)
    · rw [if_neg (by omega), if_neg (by omega)]
      rcases C.c1 with c | c | c
      · omega
      · omega
      · have k1 : lt d[y]! d[s - 1]! = false := above_nlt hO h2 he1 (by omega) hyb c
        exact below_nlt hO h1 hx (by omega : x ≤ s - 1) (by omega) k1
  · rw [if_pos (c := s ≤ x ∧ _) (by omega)]
    by_cases cy : y < e
    · rw [if_neg (by omega), if_pos (by omega)]
      rcases C.c2 with c | c | c
      · omega
      · omega
      · have k1 : lt d[e - 1]! d[y - (e - m)]! = true := above_lt hO h1 hs1 (by omega) (by omega) c
        exact lt_asym hO (below_lt hO h2 (by omega : m ≤ x + (m - s)) (by omega : x + (m - s) ≤ e - 1) (by omega) k1)
    · rw [if_neg (by omega), if_neg (by omega)]
      exact h2 (x + (m - s)) y (by omega) (by omega) hyb
theorem cut_sorted {d d1 : Array α} {a m b s e mid : Nat} (C : Cut lt d a m b s e mid) (h1 : SortedIn lt a m d) (h2 : SortedIn lt m b d) (hr : ∀ t, d1[t]! = rotF (fun t => d[t]!) s m e t) :
    SortedIn lt a s d1 ∧ SortedIn lt s mid d1 ∧ SortedIn lt mid e d1 ∧ SortedIn lt e b d1 := by
  have hs1 := C.s1; have hs2 := C.s2; have he1 := C.e1; have he2 := C.e2; have hsum := C.sum
  refine ⟨fun x y hx hxy hy => ?_, fun x y hx hxy hy => ?_, fun x y hx hxy hy => ?_, fun x y hx hxy hy => ?_⟩
  all_goals
    rw [hr, hr]
    unfold rotF
  · rw [if_neg (by omega), if_neg (by omega), if_neg (by omega), if_neg (by omega)]
    exact h1 x y hx hxy (by omega)
  · rw [if_pos (by omega), if_pos (by omega)]
    exact h2 _ _ (by omega) (by omega) (by omega)
  · rw [if_neg (by omega), if_pos (by omega), if_neg (by omega), if_pos (by omega)]
    exact h1 _ _ (by omega) (by omega) (by omega)
  · rw [if_neg (by omega), if_neg (by omega), if_neg (by omega), if_neg (by omega)]
    exact h2 x y (by omega) hxy hy
theorem rot_none (d : Array α) {s m e : Nat} (h : s = m ∨ e = m) : RotTo d s m e d := ⟨rfl, permIn_refl _ _ _, fun t => by
  unfold rotF
  rcases h with rfl | rfl
  · split
    · exact congrArg (fun t => d[t]!) (by omega)
    · split
      · omega
      · rfl
  · rw [if_neg (by omega)]
    split
    · exact congrArg (fun t => d[t]!) (by omega)
    · rfl⟩
/-- The search's order. -/
theorem cut_mono (hO : SWO lt) {d : Array α} {a m b p c c' : Nat} (h1 : SortedIn lt a m d) (h2 : SortedIn lt m b d) (hc : a ≤ c') (hcc : c' ≤ c) (hcm : c < m) (hp : m + c ≤ p) (hpb : p < b + c') (hl : lt d[p - c]! d[c]! = false) : lt d[p - c']! d[c']! = false := by
  have k1 : lt d[p - c']! d[c]! = false := above_nlt hO h2 (by omega : m ≤ p - c) (by omega) (by omega) hl
  exact below_nlt hO h1 hc hcc hcm k1
theorem cut_mono' (hO : SWO lt) {d : Array α} {a m b p c c' : Nat} (h1 : SortedIn lt a m d) (h2 : SortedIn lt m b d) (hc : a ≤ c) (hcc : c ≤ c') (hcm : c' < m) (hp : m + c' ≤ p) (hpb : p < b + c) (hl : lt d[p - c]! d[c]! = true) : lt d[p - c']! d[c']! = true := by
  cases h3 : lt d[p - c']! d[c']! with
  | true => rfl
  | false => have := cut_mono hO h1 h2 hc hcc hcm hp hpb h3; rw [this] at hl; cases hl
/-- What a merge leaves. -/
structure Mg (lt : α → α → Bool) (a b : Nat) (d dk : Array α) : Prop where
  perm : PermIn a b d dk
  sorted : SortedIn lt a b dk
theorem mg_join (hO : SWO lt) {d d1 d2 d3 : Array α} {a m b s e mid : Nat} (C : Cut lt d a m b s e mid) (hb : b ≤ d.size) (h1 : SortedIn lt a m d) (h2 : SortedIn lt m b d) (hr : RotTo d s m e d1)
    (k2 : Mg lt a mid d1 d2) (k3 : Mg lt mid b d2 d3) : Mg lt a b d d3 := by
  have hs1 := C.s1; have hs2 := C.s2; have he1 := C.e1; have he2 := C.e2; have hsum := C.sum
  have z1 := hr.size
  have z2 := k2.perm.1
  have hx := cut_cross hO C h1 h2 hr.at_
  have hx2 := cross_left hx (by omega) k2.perm
  have hx3 := cross_right hx2 (by omega) k3.perm
  refine ⟨permIn_trans _ _ _ _ _ (permIn_mono _ _ s e a b hs1 he2 (by omega) hr.perm) (permIn_trans _ _ _ _ _ (permIn_mono _ _ a mid a b (Nat.le_refl _) (by omega) (by omega) k2.perm) (permIn_mono _ _ mid b a b (by omega) (Nat.le_refl _) (by omega) k3.perm)), ?_⟩
  exact sorted_join (sorted_keep k2.sorted (fun t _ h => k3.perm.2.1 t (.inl h))) k3.sorted hx3
end

section
variable {P : Program} {α : Type} [Inhabited α]
set_option maxHeartbeats 8000000 in
set_option maxRecDepth 1000000 in
theorem merge_any (L : StL P) (k : Nat) (aE : ∀ w, (isAgg 95).run P w = .ok true w) (zE : ∀ w, (Go.sizeOf 95).run P w = .ok k w) (enc : α → List Value) (cf : α → α → Int) (hO : SWO (ltOf cf)) (g : Nat) (cb : Array Value) (blk off cap n : Nat) (d0 : Array α) (w0 : World)
    (eg : ∀ args w, (callFunc g args).run P w = .ok (.enter g args) w) (hcmp : CmpLays P g cb enc k cf blk off d0.size w0) (R : RowK enc k w0 blk off d0) (hn0 : d0.size = n) (hsz : n < 4611686018427387904) : ∀ (N a m b : Nat) (d : Array α) (w : World), b - a ≤ N → d.size = n → SWK enc k w0 blk off d w → a < m → m < b → b ≤ n → SortedIn (ltOf cf) a m d → SortedIn (ltOf cf) m b d →
    Calls P 71 #[.slice (some ⟨blk, off, none⟩) n cap, .int .i64 a, .int .i64 m, .int .i64 b, .func (.func g) #[] cb] w fun e w' => e = .returned (.tuple #[]) ∧ ∃ dk, Mg (ltOf cf) a b d dk ∧ SWK enc k w0 blk off dk w' := by
  intro N
  induction N with
  | zero => intro a m b d w hN _ _ h1 h2; omega
  | succ N IH =>
    intro a m b d w hN hs S ham hmb hb hsa hsb
    by_cases hm1 : m = a + 1
    · rw [← hs]
      refine (merge_first L k aE zE enc cf hO g cb blk off cap a m b d0 d w0 w eg hcmp R (by omega) S hm1 hmb (by omega) (by omega) hsb).mono ?_
      rintro e w' ⟨rfl, dk, ⟨h1, h2⟩, h3⟩
      exact ⟨rfl, dk, ⟨h1, h2⟩, h3⟩
    by_cases hm2 : b = m + 1
    · rw [← hs]
      refine (merge_last L k aE zE enc cf hO g cb blk off cap a m b d0 d w0 w eg hcmp R (by omega) S (by omega) hm2 (by omega) (by omega) hsa).mono ?_
      rintro e w' ⟨rfl, dk, ⟨h1, h2⟩, h3⟩
      exact ⟨rfl, dk, ⟨h1, h2⟩, h3⟩
    have C72 := Lib.hid (fun (d1 : Array α) (wr : World) (hd1 : d1.size = n) (S1 : SWK enc k w0 blk off d1 wr) (x y z : Nat) (h1 : x < y) (h2 : y < z) (h3 : z ≤ n) => show Calls P 72 #[.slice (some ⟨blk, off, none⟩) n cap, .int .i64 x, .int .i64 y, .int .i64 z, .func (.func g) #[] cb] wr fun e w' => e = .returned (.tuple #[]) ∧ ∃ dk', RotTo d1 x y z dk' ∧ SWK enc k w0 blk off dk' w' by
      have := rotate_any L k aE zE enc g cb blk off cap x y z d0 d1 w0 wr R (by omega) S1 h1 h2 (by omega) (by omega)
      rwa [hd1] at this)
    have C71 := Lib.hid IH
    have mixed := L.mixed; have t0 := L.t0; have a0 := L.a0; have z0 := L.z0; have v0 := L.v0; have t3 := L.t3; have a3 := L.a3; have z3 := L.z3; have v3 := L.v3; have t4 := L.t4; have a4 := L.a4; have z4 := L.z4; have v4 := L.v4; have t78 := L.t78; have a78 := L.a78; have z78 := L.z78; have v78 := L.v78; have t103 := L.t103; have a103 := L.a103; have z103 := L.z103; have v103 := L.v103
    have t138 := L.t138; have a138 := L.a138; have z138 := L.z138; have v138 := L.v138
    have F := L.f71
    have e72 : ∀ args w, (callFunc 72 args).run P w = .ok (.enter 72 args) w := enters_of L.f72 (by decide) rfl
    have e71 : ∀ args w, (callFunc 71 args).run P w = .ok (.enter 71 args) w := enters_of L.f71 (by decide) rfl
    have S0 : Aside (SWK enc k w0 blk off d w) := S
    have HSA : Aside (SortedIn (ltOf cf) a m d) := hsa
    have HSB : Aside (SortedIn (ltOf cf) m b d) := hsb
    have HC : Aside (CmpLays P g cb enc k cf blk off d0.size w0) := hcmp
    have hbq : ((m : Int) - (a : Int) == 1) = false := by simp; omega
    have hbq2 : ((b : Int) - (m : Int) == 1) = false := by simp; omega
    have ham2 : a + 2 ≤ m := by omega
    have hmb2 : m + 2 ≤ b := by omega
    clear S hcmp hm1 hm2 IH hsa hsb
    go_enter F, Try.ntmps71
    go_upto_region 25 with (fail)
    obtain ⟨mid, hmid⟩ : ∃ mid, mid = (a + b) / 2 := ⟨_, rfl⟩
    rw [show ((a : Int) + (b : Int)) / 2 = (mid : Int) from by omega]
    have hq1 : 2 * mid ≤ a + b := by omega
    have hq2 : a + b ≤ 2 * mid + 1 := by omega
    clear hmid
    obtain ⟨lo0, hi0, hl1, hl2, hl3, hl4, hl5, hc1, hc2⟩ : ∃ lo0 hi0 : Nat, a ≤ lo0 ∧ lo0 ≤ hi0 ∧ hi0 ≤ m ∧ hi0 ≤ mid ∧ mid + m ≤ b + lo0 ∧ (mid < m → lo0 + b = mid + m ∧ hi0 = mid) ∧ (m ≤ mid → lo0 = a ∧ hi0 = m) := by
      by_cases h : mid < m
      · exact ⟨mid + m - b, mid, by omega, by omega, by omega, by omega, by omega, fun _ => ⟨by omega, rfl⟩, fun h2 => by omega⟩
      · exact ⟨a, m, by omega, by omega, by omega, by omega, by omega, fun h2 => by omega, fun _ => ⟨rfl, rfl⟩⟩
    obtain ⟨p, hp⟩ : ∃ p, p + 1 = mid + m := ⟨mid + m - 1, by omega⟩
    have hz1 : lo0 = a ∨ lo0 + b = mid + m := by rcases Nat.lt_or_ge mid m with h | h; exact .inr (hc1 h).1; exact .inl (hc2 h).1
    have hz2 : hi0 = m ∨ hi0 = mid := by rcases Nat.lt_or_ge mid m with h | h; exact .inr (hc1 h).2; exact .inl (hc2 h).2
    have hpz : (p : Int) = (mid : Int) + (m : Int) - 1 := by omega
    have HPZ : Aside ((p : Int) = (mid : Int) + (m : Int) - 1 ∧ p + 1 = mid + m) := ⟨hpz, hp⟩
    have HZ : Aside ((lo0 = a ∨ lo0 + b = mid + m) ∧ (hi0 = m ∨ hi0 = mid)) := ⟨hz1, hz2⟩
    have AT : Aside ((mid < m → (mid : Int) + (m : Int) - (b : Int) = (lo0 : Int) ∧ mid = hi0) ∧ (m ≤ mid → a = lo0 ∧ m = hi0)) := ⟨fun h => ⟨by have := (hc1 h).1; omega, (hc1 h).2.symm⟩, fun h => ⟨(hc2 h).1.symm, (hc2 h).2.symm⟩⟩
    clear hc1 hc2 hz1 hz2 hp hpz
    have HN : Aside (d0.size = n ∧ d.size = n) := ⟨hn0, hs⟩
    clear hs hn0
    go_upto_if 140 with (fail)
    go_cut [20, 21] from 25 (fun s20 s21 wc => s20 = .int .i64 lo0 ∧ s21 = .int .i64 hi0 ∧ wc = w)
    case first => as_aux_lemma =>
      clear S0
      rcases Nat.lt_or_ge mid m with hmm | hmm
      · have hmz : (mid : Int) < (m : Int) := by omega
        go_wp2_with fail
        go_meet
        case rel => exact ⟨congrArg (Value.int .i64) (AT.out.1 hmm).1, congrArg (fun x : Nat => Value.int .i64 (x : Int)) (AT.out.1 hmm).2, rfl⟩
      · have hmz : ¬ (mid : Int) < (m : Int) := by omega
        go_wp2_with fail
        go_meet
        case rel => exact ⟨congrArg (fun x : Nat => Value.int .i64 (x : Int)) (AT.out.2 hmm).1, congrArg (fun x : Nat => Value.int .i64 (x : Int)) (AT.out.2 hmm).2, rfl⟩
    case rest => as_aux_lemma =>
      obtain ⟨rfl, rfl, rfl⟩ := hcut
      go_upto_region 32 with (fail)
      go_cut [22] from 25 (fun s22 wx => s22 = .int .i64 p ∧ wx = wc)
      case first => as_aux_lemma =>
        clear S0
        go_wp2_with fail
        go_meet
        case rel => exact ⟨congrArg (Value.int .i64) HPZ.out.1.symm, rfl⟩
      case rest => as_aux_lemma =>
      obtain ⟨rfl, rfl⟩ := hcut
      go_wp2_with fail
      go_loopg [20, 21] (hi0 - lo0) (fun kx s20 s21 wr => ∃ i j : Nat, s20 = .int .i64 i ∧ s21 = .int .i64 j ∧ lo0 ≤ i ∧ i ≤ j ∧ j ≤ hi0 ∧ j - i ≤ kx ∧ (∀ c, lo0 ≤ c → c < i → ltOf cf d[p - c]! d[c]! = false) ∧ (∀ c, j ≤ c → c < hi0 → ltOf cf d[p - c]! d[c]! = true) ∧ Aside (SWK enc k w0 blk off d wr))
      case atStart => exact ⟨lo0, hi0, rfl, rfl, by omega, by omega, by omega, by omega, fun c h1 h2 => by omega, fun c h1 h2 => by omega, S0⟩
      case round =>
        clear S0
        obtain ⟨i, j, rfl, rfl, h1, h2, h3, hkx, hlo, hhi, S1⟩ := hrel
        by_cases hlt : i < j
        · have hltz : (i : Int) < (j : Int) := by omega
          go_wp2_with fail
          obtain ⟨h, hh⟩ : ∃ h, h = (i + j) / 2 := ⟨_, rfl⟩
          rw [show ((i : Int) + (j : Int)) / 2 = (h : Int) from by omega]
          have hh1 : i ≤ h := by omega
          have hh2 : h < j := by omega
          clear hh
          obtain ⟨q, hq⟩ : ∃ q, q + h = p := ⟨p - h, by have := HPZ.out.2; omega⟩
          have HQ : Aside (q + h = p) := hq
          have hqm : m ≤ q := by have := HPZ.out.2; omega
          have hqb : q < b := by have := HPZ.out.2; omega
          have ea2 : ((q : Int)).toNat = q := by omega
          have pa2 : (0 : Int) ≤ (q : Int) := by omega
          have ba2 : (q : Int) < (n : Int) := by omega
          have ra2 : IntKind.i64.wrap ((p : Int) - (h : Int)) = (q : Int) := by rw [IntKind.wrap_i64]; omega
          clear hq
          have ea : ((h : Int)).toNat = h := by omega
          have pa : (0 : Int) ≤ (h : Int) := by omega
          have ba : (h : Int) < (n : Int) := by omega
          obtain ⟨x, hx⟩ : ∃ x, x = d[q]! := ⟨_, rfl⟩
          obtain ⟨y, hy⟩ : ∃ y, y = d[h]! := ⟨_, rfl⟩
          have l1 := S1.out.ld R (by have := HN.out; omega) P q (by have := HN.out; omega)
          have l2 := S1.out.ld R (by have := HN.out; omega) P h (by have := HN.out; omega)
          rw [← hx] at l1
          rw [← hy] at l2
          have hc := S1.out.cmp HC.out (by have := HN.out; omega) x y
          have HX : Aside (x = d[q]! ∧ y = d[h]!) := ⟨hx, hy⟩
          clear hx hy
          by_cases hv : cf x y < 0
          · have hd : decide (cf x y < 0) = true := decide_eq_true hv
            go_quiet_grown (first | (go_at_fn g; refine Calls.grown_of (hc _ _)))
            have S2 : Aside (SWK enc k w0 blk off d (grow (wr.drewN nq) osq)) := S1.out.grown nq osq
            clear l1 l2 hc S1
            generalize grow (wr.drewN nq) osq = w2 at S2 ⊢
            go_wp2
            go_roundg (h - i)
            case measure => omega
            case rel =>
              have hl : ltOf cf d[p - h]! d[h]! = true := by rw [show p - h = q from by have := HQ.out; omega, ← HX.out.1, ← HX.out.2]; exact hd
              exact ⟨i, h, rfl, by go_num, by omega, by omega, by omega, Nat.le_refl _, hlo, fun c h4 h5 => cut_mono' hO HSA.out HSB.out (by omega) h4 (by omega) (by have := HPZ.out.2; omega) (by have := HPZ.out.2; omega) hl, S2⟩
          · have hd : decide (cf x y < 0) = false := decide_eq_false hv
            go_quiet_grown (first | (go_at_fn g; refine Calls.grown_of (hc _ _)))
            have S2 : Aside (SWK enc k w0 blk off d (grow (wr.drewN nq) osq)) := S1.out.grown nq osq
            clear l1 l2 hc S1
            generalize grow (wr.drewN nq) osq = w2 at S2 ⊢
            go_wp2
            go_roundg (j - (h + 1))
            case measure => omega
            case rel =>
              have hl : ltOf cf d[p - h]! d[h]! = false := by rw [show p - h = q from by have := HQ.out; omega, ← HX.out.1, ← HX.out.2]; exact hd
              exact ⟨h + 1, j, by go_num, rfl, by omega, by omega, by omega, Nat.le_refl _, fun c h4 h5 => cut_mono hO HSA.out HSB.out (by omega) (by omega) (by omega) (by have := HPZ.out.2; omega) (by have := HPZ.out.2; omega) hl, hhi, S2⟩
        · have hij : i = j := by omega
          subst hij
          have hltz : ¬ (i : Int) < (i : Int) := by omega
          obtain ⟨e, he⟩ : ∃ e, e + i = mid + m := ⟨mid + m - i, by omega⟩
          have HE : Aside (e + i = mid + m) := he
          have e1 : m ≤ e := by omega
          have e2 : e ≤ b := by omega
          have CT : Aside (Cut (ltOf cf) d a m b i e mid) := by
            have hpz := HPZ.out.2
            refine ⟨by omega, by omega, e1, e2, by omega, ?_, ?_⟩
            · by_cases h : i = lo0
              · rcases HZ.out.1 with h4 | h4
                · exact .inr (.inl (by omega))
                · exact .inl (by omega)
              · have := hlo (i - 1) (by omega) (by omega)
                rw [show p - (i - 1) = e from by omega] at this
                exact .inr (.inr this)
            · by_cases h : i = hi0
              · rcases HZ.out.2 with h4 | h4
                · exact .inr (.inl (by omega))
                · exact .inl (by omega)
              · have := hhi i (by omega) (by omega)
                rw [show p - i = e - 1 from by omega] at this
                exact .inr (.inr this)
          have q1 : a ≤ i := by omega
          have q2 : i ≤ m := by omega
          clear he hlo hhi
          go_upto_region 38 with (fail)
          go_cut [24] from 25 (fun s24 wx => s24 = .int .i64 e ∧ wx = wr)
          case first => as_aux_lemma =>
            go_wp2_with fail
            go_meet
            case rel => exact ⟨congrArg (Value.int .i64) (by have := HE.out; omega), rfl⟩
          case rest => as_aux_lemma =>
          obtain ⟨rfl, rfl⟩ := hcut
          -- the rotation
          go_upto_region 39 with (fail)
          go_cut [185] from 25 (fun s wx => s = .bool (decide (i < m ∧ m < e)) ∧ wx = wc)
          case first => as_aux_lemma =>
            by_cases r1 : i < m
            · have r1z : (i : Int) < (m : Int) := by omega
              by_cases r2 : m < e
              · have r2z : (m : Int) < (e : Int) := by omega
                go_wp2_with fail
                go_meet
                case rel => exact ⟨by simp [r1, r2], rfl⟩
              · have r2z : ¬ (m : Int) < (e : Int) := by omega
                go_wp2_with fail
                go_meet
                case rel => exact ⟨by simp [r2], rfl⟩
            · have r1z : ¬ (i : Int) < (m : Int) := by omega
              go_wp2_with fail
              go_meet
              case rel => exact ⟨by simp [r1], rfl⟩
          case rest => as_aux_lemma =>
          obtain ⟨rfl, rfl⟩ := hcut
          go_upto_if 185 with (fail)
          go_cut [] from 25 (fun wx => ∃ d1, RotTo d i m e d1 ∧ SWK enc k w0 blk off d1 wx)
          case first => as_aux_lemma =>
            by_cases hr : i < m ∧ m < e
            · rw [decide_eq_true hr]
              have HR : Aside (i < m ∧ m < e) := hr
              clear hr
              go_wp2_with (go_at_fn 72; (refine (C72.out d _ HN.out.2 S1.out i m e HR.out.1 HR.out.2 (by omega)).mono ?_); rintro e9 w9 ⟨rfl, d1, R1, S2⟩; have HR1 := Lib.hid R1; have HS2 := Lib.hid S2; clear R1 S2)
              go_meet
              case rel => exact ⟨d1, HR1.out, HS2.out⟩
            · rw [decide_eq_false hr]
              have HR : Aside (i = m ∨ e = m) := by show i = m ∨ e = m; omega
              clear hr
              go_wp2_with fail
              go_meet
              case rel => exact ⟨d, rot_none d HR.out, S1.out⟩
          case rest => as_aux_lemma =>
          obtain ⟨d1, R1', S2'⟩ := hcut
          have R1 : Aside (RotTo d i m e d1) := R1'
          have S2 : Aside (SWK enc k w0 blk off d1 wc) := S2'
          have hd1 : Aside (d1.size = n) := R1'.size.trans HN.out.2
          obtain ⟨x1, x2, x3, x4⟩ := cut_sorted CT.out HSA.out HSB.out R1'.at_
          have X : Aside (SortedIn (ltOf cf) a i d1 ∧ SortedIn (ltOf cf) i mid d1 ∧ SortedIn (ltOf cf) mid e d1 ∧ SortedIn (ltOf cf) e b d1) := ⟨x1, x2, x3, x4⟩
          have q3 : i ≤ mid := by have := HE.out; omega
          have q4 : mid ≤ e := by have := HE.out; omega
          clear S1 R1' S2' x1 x2 x3 x4
          -- the first half
          go_upto_region 41 with (fail)
          go_cut [199] from 25 (fun s wx => s = .bool (decide (a < i ∧ i < mid)) ∧ wx = wc)
          case first => as_aux_lemma =>
            by_cases r1 : a < i
            · have r1z : (a : Int) < (i : Int) := by omega
              by_cases r2 : i < mid
              · have r2z : (i : Int) < (mid : Int) := by omega
                go_wp2_with fail
                go_meet
                case rel => exact ⟨by simp [r1, r2], rfl⟩
              · have r2z : ¬ (i : Int) < (mid : Int) := by omega
                go_wp2_with fail
                go_meet
                case rel => exact ⟨by simp [r2], rfl⟩
            · have r1z : ¬ (a : Int) < (i : Int) := by omega
              go_wp2_with fail
              go_meet
              case rel => exact ⟨by simp [r1], rfl⟩
          case rest => as_aux_lemma =>
          obtain ⟨rfl, rfl⟩ := hcut
          go_upto_if 199 with (fail)
          go_cut [] from 25 (fun wx => ∃ d2, Mg (ltOf cf) a mid d1 d2 ∧ SWK enc k w0 blk off d2 wx)
          case first => as_aux_lemma =>
            by_cases hr : a < i ∧ i < mid
            · rw [decide_eq_true hr]
              have HR : Aside (a < i ∧ i < mid) := hr
              clear hr
              go_wp2_with (go_at_fn 71; (refine (C71.out a i mid d1 _ (by have := HE.out; omega) hd1.out S2.out HR.out.1 HR.out.2 (by omega) X.out.1 X.out.2.1).mono ?_); rintro e9 w9 ⟨rfl, d2, M2, S3⟩; have HM2 := Lib.hid M2; have HS3 := Lib.hid S3; clear M2 S3)
              go_meet
              case rel => exact ⟨d2, HM2.out, HS3.out⟩
            · rw [decide_eq_false hr]
              have HR : Aside (a = i ∨ i = mid) := by show a = i ∨ i = mid; omega
              clear hr
              go_wp2_with fail
              go_meet
              case rel =>
                refine ⟨d1, ⟨permIn_refl _ _ _, ?_⟩, S2.out⟩
                rcases HR.out with h | h
                · rw [h]; exact X.out.2.1
                · rw [← h]; exact X.out.1
          case rest => as_aux_lemma =>
          obtain ⟨d2, M2', S3'⟩ := hcut
          have M2 : Aside (Mg (ltOf cf) a mid d1 d2) := M2'
          have S3 : Aside (SWK enc k w0 blk off d2 wc) := S3'
          have hd2 : Aside (d2.size = n) := M2'.perm.1.trans hd1.out
          have X2 : Aside (SortedIn (ltOf cf) mid e d2 ∧ SortedIn (ltOf cf) e b d2) := ⟨sorted_keep X.out.2.2.1 (fun t h _ => M2'.perm.2.1 t (.inr h)), sorted_keep X.out.2.2.2 (fun t h _ => M2'.perm.2.1 t (.inr (by omega)))⟩
          clear M2' S3' S2
          -- the second half
          go_upto_region 43 with (fail)
          go_cut [213] from 25 (fun s wx => s = .bool (decide (mid < e ∧ e < b)) ∧ wx = wc)
          case first => as_aux_lemma =>
            by_cases r1 : mid < e
            · have r1z : (mid : Int) < (e : Int) := by omega
              by_cases r2 : e < b
              · have r2z : (e : Int) < (b : Int) := by omega
                go_wp2_with fail
                go_meet
                case rel => exact ⟨by simp [r1, r2], rfl⟩
              · have r2z : ¬ (e : Int) < (b : Int) := by omega
                go_wp2_with fail
                go_meet
                case rel => exact ⟨by simp [r2], rfl⟩
            · have r1z : ¬ (mid : Int) < (e : Int) := by omega
              go_wp2_with fail
              go_meet
              case rel => exact ⟨by simp [r1], rfl⟩
          case rest => as_aux_lemma =>
          obtain ⟨rfl, rfl⟩ := hcut
          by_cases hr : mid < e ∧ e < b
          · rw [decide_eq_true hr]
            have HR : Aside (mid < e ∧ e < b) := hr
            clear hr
            go_wp2_with (go_at_fn 71; (refine (C71.out mid e b d2 _ (by omega) hd2.out S3.out HR.out.1 HR.out.2 (by omega) X2.out.1 X2.out.2).mono ?_); rintro e9 w9 ⟨rfl, d3, M3, S4⟩; have HM3 := Lib.hid M3; have HS4 := Lib.hid S4; clear M3 S4)
            go_end0
            exact ⟨rfl, d3, mg_join hO CT.out (by have := HN.out; omega) HSA.out HSB.out R1.out M2.out HM3.out, HS4.out⟩
          · rw [decide_eq_false hr]
            have HR : Aside (mid = e ∨ e = b) := by show mid = e ∨ e = b; omega
            clear hr
            go_wp2_with fail
            go_end0
            refine ⟨rfl, d2, mg_join hO CT.out (by have := HN.out; omega) HSA.out HSB.out R1.out M2.out ⟨permIn_refl _ _ _, ?_⟩, S3.out⟩
            rcases HR.out with h | h
            · rw [h]; exact X2.out.2
            · rw [← h]; exact X2.out.1
end
end Go.Proofs.Ytkdnkjjnmadhgaa.Dev
