import Derived.Test.YtkdnkjjnmadhgaaDA
set_option linter.unusedVariables false
set_option linter.unusedSimpArgs false
/-! slices.symMergeCmpFunc. -/
namespace Go.Proofs.Ytkdnkjjnmadhgaa.Dev
open Go.Shelf Go.RowKit Go.Lib Go.Sort Go.Proofs

/-! Plain: a value put into its place. -/
section
variable {α : Type} [Inhabited α] {lt : α → α → Bool}
/-- The value of place a has been moved up to place k. -/
def upF (f : Nat → α) (a k : Nat) : Nat → α := fun t => if a ≤ t ∧ t < k then f (t + 1) else if t = k ∧ a ≤ t then f a else f t
/-- The value of place m has been moved down to place k. -/
def downF (f : Nat → α) (m k : Nat) : Nat → α := fun t => if t = k ∧ k ≤ m then f m else if k < t ∧ t ≤ m then f (t - 1) else f t
structure MovedTo (d : Array α) (a b : Nat) (F : Nat → α) (dk : Array α) : Prop where
  size : dk.size = d.size
  perm : PermIn a b d dk
  at_ : ∀ t, dk[t]! = F t
theorem up_start (d : Array α) (a b : Nat) : MovedTo d a b (upF (fun t => d[t]!) a a) d := ⟨rfl, permIn_refl _ _ _, fun t => by
  unfold upF
  rw [if_neg (by omega)]
  split
  · rename_i h; rw [h.1]
  · rfl⟩
theorem up_step {d dk : Array α} {a b k : Nat} (h : MovedTo d a b (upF (fun t => d[t]!) a k) dk) (hak : a ≤ k) (hk : k + 1 < b) (hb : b ≤ d.size) : MovedTo d a b (upF (fun t => d[t]!) a (k + 1)) (swp dk k (k + 1)) := by
  have hs := h.size
  refine ⟨by rw [size_swp]; exact hs, permIn_trans _ _ _ _ _ h.perm (swp_permIn dk a b k (k + 1) (by omega) (by omega) (by omega) (by omega) (by omega)), fun t => ?_⟩
  rw [swp_get dk (by omega) (by omega), h.at_, h.at_, h.at_]
  unfold upF
  repeat' split
  all_goals first | (exfalso; omega) | rfl | exact congrArg (fun t => d[t]!) (by omega)
theorem down_start (d : Array α) (a b m : Nat) : MovedTo d a b (downF (fun t => d[t]!) m m) d := ⟨rfl, permIn_refl _ _ _, fun t => by
  unfold downF
  split
  · rename_i h; rw [h.1]
  · rw [if_neg (by omega)]⟩
theorem down_step {d dk : Array α} {a b m k : Nat} (h : MovedTo d a b (downF (fun t => d[t]!) m (k + 1)) dk) (hak : a ≤ k) (hk : k + 1 ≤ m) (hm : m < b) (hb : b ≤ d.size) : MovedTo d a b (downF (fun t => d[t]!) m k) (swp dk (k + 1) k) := by
  have hs := h.size
  refine ⟨by rw [size_swp]; exact hs, permIn_trans _ _ _ _ _ h.perm (swp_permIn dk a b (k + 1) k (by omega) (by omega) (by omega) (by omega) (by omega)), fun t => ?_⟩
  rw [swp_get dk (by omega) (by omega), h.at_, h.at_, h.at_]
  unfold downF
  repeat' split
  all_goals first | (exfalso; omega) | rfl | exact congrArg (fun t => d[t]!) (by omega)
omit [Inhabited α] in
theorem lt_asym (hO : SWO lt) {x y : α} (h : lt x y = true) : lt y x = false := by
  cases h2 : lt y x with
  | false => rfl
  | true => have := hO.trans x y x h h2; rw [hO.irrefl] at this; cases this
/-- The first case of a merge: one value ahead of a sorted stretch. -/
theorem up_sorted (hO : SWO lt) {d dk : Array α} {a b i : Nat} (hsort : SortedIn lt (a + 1) b d) (h1 : a + 1 ≤ i) (h2 : i ≤ b) (hlo : ∀ t, a + 1 ≤ t → t < i → lt d[t]! d[a]! = true) (hhi : ∀ t, i ≤ t → t < b → lt d[t]! d[a]! = false) (h : MovedTo d a b (upF (fun t => d[t]!) a (i - 1)) dk) : SortedIn lt a b dk := by
  intro x y hx hxy hy
  rw [h.at_, h.at_]
  unfold upF
  by_cases c1 : y < i - 1
  · rw [if_pos ⟨by omega, c1⟩, if_pos ⟨hx, by omega⟩]
    exact hsort (x + 1) (y + 1) (by omega) (by omega) (by omega)
  · by_cases c2 : y = i - 1
    · rw [if_neg (by omega), if_pos ⟨c2, by omega⟩, if_pos ⟨hx, by omega⟩]
      exact lt_asym hO (hlo (x + 1) (by omega) (by omega))
    · rw [if_neg (by omega), if_neg (by omega)]
      by_cases c3 : x < i - 1
      · rw [if_pos ⟨hx, c3⟩]
        exact hsort (x + 1) y (by omega) (by omega) hy
      · rw [if_neg (by omega)]
        by_cases c4 : x = i - 1
        · rw [if_pos ⟨c4, hx⟩]
          exact hhi y (by omega) hy
        · rw [if_neg (by omega)]
          exact hsort x y (by omega) hxy hy
/-- The second case: one value behind a sorted stretch. -/
theorem down_sorted (hO : SWO lt) {d dk : Array α} {a m i : Nat} (hsort : SortedIn lt a m d) (h1 : a ≤ i) (h2 : i ≤ m) (hlo : ∀ t, a ≤ t → t < i → lt d[m]! d[t]! = false) (hhi : ∀ t, i ≤ t → t < m → lt d[m]! d[t]! = true) (h : MovedTo d a (m + 1) (downF (fun t => d[t]!) m i) dk) : SortedIn lt a (m + 1) dk := by
  intro x y hx hxy hy
  rw [h.at_, h.at_]
  unfold downF
  by_cases c1 : y = i
  · rw [if_pos ⟨c1, h2⟩, if_neg (by omega), if_neg (by omega)]
    exact hlo x hx (by omega)
  · rw [if_neg (by omega)]
    by_cases c2 : i < y
    · rw [if_pos ⟨c2, by omega⟩]
      by_cases c3 : x = i
      · rw [if_pos ⟨c3, h2⟩]
        exact lt_asym hO (hhi (y - 1) (by omega) (by omega))
      · rw [if_neg (by omega)]
        by_cases c4 : i < x
        · rw [if_pos ⟨c4, by omega⟩]
          exact hsort (x - 1) (y - 1) (by omega) (by omega) (by omega)
        · rw [if_neg (by omega)]
          exact hsort x (y - 1) hx (by omega) (by omega)
    · rw [if_neg (by omega), if_neg (by omega), if_neg (by omega)]
      exact hsort x y hx hxy (by omega)
/-- A search's step. -/
theorem below_lt (hO : SWO lt) {d : Array α} {a b h t : Nat} {z : α} (hsort : SortedIn lt a b d) (h1 : a ≤ t) (h2 : t ≤ h) (h3 : h < b) (hl : lt d[h]! z = true) : lt d[t]! z = true := by
  by_cases e : t = h
  · rw [e]; exact hl
  · have h4 := hsort t h h1 (by omega) h3
    cases h5 : lt d[t]! z with
    | true => rfl
    | false => have := hO.ntrans _ _ _ h4 h5; rw [this] at hl; cases hl
theorem above_nlt (hO : SWO lt) {d : Array α} {a b h t : Nat} {z : α} (hsort : SortedIn lt a b d) (h1 : a ≤ h) (h2 : h ≤ t) (h3 : t < b) (hl : lt d[h]! z = false) : lt d[t]! z = false := by
  by_cases e : t = h
  · rw [e]; exact hl
  · exact hO.ntrans _ _ _ (hsort h t h1 (by omega) h3) hl
theorem below_nlt (hO : SWO lt) {d : Array α} {a b h t : Nat} {z : α} (hsort : SortedIn lt a b d) (h1 : a ≤ t) (h2 : t ≤ h) (h3 : h < b) (hl : lt z d[h]! = false) : lt z d[t]! = false := by
  by_cases e : t = h
  · rw [e]; exact hl
  · exact hO.ntrans _ _ _ hl (hsort t h h1 (by omega) h3)
theorem above_lt (hO : SWO lt) {d : Array α} {a b h t : Nat} {z : α} (hsort : SortedIn lt a b d) (h1 : a ≤ h) (h2 : h ≤ t) (h3 : t < b) (hl : lt z d[h]! = true) : lt z d[t]! = true := by
  by_cases e : t = h
  · rw [e]; exact hl
  · have h4 := hsort h t h1 (by omega) h3
    cases h5 : lt z d[t]! with
    | true => rfl
    | false => have := hO.ntrans _ _ _ h5 h4; rw [this] at hl; cases hl
end
section
variable {P : Program} {α : Type} [Inhabited α]
set_option maxHeartbeats 4000000 in
set_option maxRecDepth 1000000 in
theorem merge_first (L : StL P) (k : Nat) (aE : ∀ w, (isAgg 95).run P w = .ok true w) (zE : ∀ w, (Go.sizeOf 95).run P w = .ok k w) (enc : α → List Value) (cf : α → α → Int) (hO : SWO (ltOf cf)) (g : Nat) (cb : Array Value) (blk off cap a m b : Nat) (d0 d : Array α) (w0 w : World)
    (eg : ∀ args w, (callFunc g args).run P w = .ok (.enter g args) w) (hcmp : CmpLays P g cb enc k cf blk off d0.size w0) (R : RowK enc k w0 blk off d0) (hs : d0.size = d.size) (S : SWK enc k w0 blk off d w) (hm : m = a + 1) (hab : m < b) (hb : b ≤ d.size) (hsz : d.size < 4611686018427387904) (hsort : SortedIn (ltOf cf) m b d) :
    Calls P 71 #[.slice (some ⟨blk, off, none⟩) d.size cap, .int .i64 a, .int .i64 m, .int .i64 b, .func (.func g) #[] cb] w fun e w' => e = .returned (.tuple #[]) ∧ ∃ dk, (PermIn a b d dk ∧ SortedIn (ltOf cf) a b dk) ∧ SWK enc k w0 blk off dk w' := by
  have mixed := L.mixed; have t0 := L.t0; have a0 := L.a0; have z0 := L.z0; have v0 := L.v0; have t3 := L.t3; have a3 := L.a3; have z3 := L.z3; have v3 := L.v3; have t4 := L.t4; have a4 := L.a4; have z4 := L.z4; have v4 := L.v4; have t78 := L.t78; have a78 := L.a78; have z78 := L.z78; have v78 := L.v78; have t103 := L.t103; have a103 := L.a103; have z103 := L.z103; have v103 := L.v103
  have t138 := L.t138; have a138 := L.a138; have z138 := L.z138; have v138 := L.v138
  have F := L.f71
  have S0 : Aside (SWK enc k w0 blk off d w) := S
  have HM : Aside (m = a + 1) := hm
  have HS : Aside (SortedIn (ltOf cf) (a + 1) b d) := hm ▸ hsort
  have HC : Aside (CmpLays P g cb enc k cf blk off d0.size w0) := hcmp
  have hbq : ((m : Int) - (a : Int) == 1) = true := by rw [hm]; simp; omega
  have ham : a < m := by omega
  have h0 : a + 1 ≤ m := by omega
  have h00 : m ≤ a + 1 := by omega
  clear S hsort hcmp hm
  go_enter F, Try.ntmps71
  go_wp2
  go_loopg [10, 11] (b - a) (fun kx s10 s11 wr => ∃ (i j : Nat), s10 = .int .i64 i ∧ s11 = .int .i64 j ∧ a + 1 ≤ i ∧ i ≤ j ∧ j ≤ b ∧ j - i ≤ kx ∧ (∀ t, a + 1 ≤ t → t < i → ltOf cf d[t]! d[a]! = true) ∧ (∀ t, j ≤ t → t < b → ltOf cf d[t]! d[a]! = false) ∧ Aside (SWK enc k w0 blk off d wr))
  case atStart => exact ⟨m, b, rfl, rfl, by omega, by omega, by omega, by omega, fun t h1 h2 => by omega, fun t h1 h2 => by omega, S0⟩
  case round =>
    clear S0
    obtain ⟨i, j, rfl, rfl, h1, h2, h3, hkx, hlo, hhi, S1⟩ := hrel
    by_cases hlt : i < j
    · have hltz : (i : Int) < (j : Int) := by omega
      go_wp2_with fail
      obtain ⟨h, hh⟩ : ∃ h, h = (i + j) / 2 := ⟨_, rfl⟩
      rw [show ((i : Int) + (j : Int)) / 2 = (h : Int) from by omega]
      have hh1 : i ≤ h := by omega
      have hh2 : h < j := by omega
      clear hh
      have ea : ((h : Int)).toNat = h := by omega
      have pa : (0 : Int) ≤ (h : Int) := by omega
      have ba : (h : Int) < (d.size : Int) := by omega
      have ea2 : ((a : Int)).toNat = a := by omega
      have pa2 : (0 : Int) ≤ (a : Int) := by omega
      have ba2 : (a : Int) < (d.size : Int) := by omega
      obtain ⟨x, hx⟩ : ∃ x, x = d[h]! := ⟨_, rfl⟩
      obtain ⟨y, hy⟩ : ∃ y, y = d[a]! := ⟨_, rfl⟩
      have l1 := S1.out.ld R (by omega) P h (by omega)
      have l2 := S1.out.ld R (by omega) P a (by omega)
      rw [← hx] at l1
      rw [← hy] at l2
      have hc := S1.out.cmp HC.out (by omega) x y
      have HX : Aside (x = d[h]! ∧ y = d[a]!) := ⟨hx, hy⟩
      clear hx hy
      by_cases hv : cf x y < 0
      · have hd : decide (cf x y < 0) = true := decide_eq_true hv
        go_quiet_grown (first | (go_at_fn g; refine Calls.grown_of (hc _ _)))
        have S2 : Aside (SWK enc k w0 blk off d (grow (wr.drewN nq) osq)) := S1.out.grown nq osq
        clear l1 l2 hc S1
        generalize grow (wr.drewN nq) osq = w2 at S2 ⊢
        go_wp2
        go_roundg (j - (h + 1))
        case measure => omega
        case rel =>
          have hl : ltOf cf d[h]! d[a]! = true := by rw [← HX.out.1, ← HX.out.2]; exact hd
          exact ⟨h + 1, j, by go_num, rfl, by omega, by omega, by omega, Nat.le_refl _, fun t h4 h5 => below_lt hO HS.out h4 (by omega) (by omega) hl, hhi, S2⟩
      · have hd : decide (cf x y < 0) = false := decide_eq_false hv
        go_quiet_grown (first | (go_at_fn g; refine Calls.grown_of (hc _ _)))
        have S2 : Aside (SWK enc k w0 blk off d (grow (wr.drewN nq) osq)) := S1.out.grown nq osq
        clear l1 l2 hc S1
        generalize grow (wr.drewN nq) osq = w2 at S2 ⊢
        go_wp2
        go_roundg (h - i)
        case measure => omega
        case rel =>
          have hl : ltOf cf d[h]! d[a]! = false := by rw [← HX.out.1, ← HX.out.2]; exact hd
          exact ⟨i, h, rfl, by go_num, by omega, by omega, by omega, Nat.le_refl _, hlo, fun t h4 h5 => above_nlt hO HS.out (by omega) h4 h5 hl, S2⟩
    · have hij : i = j := by omega
      subst hij
      have hltz : ¬ (i : Int) < (i : Int) := by omega
      go_wp2_with fail
      go_loopg [13] (i - 1 - a) (fun kx s13 wr => ∃ (q : Nat) (dk : Array α), s13 = .int .i64 q ∧ a ≤ q ∧ q ≤ i - 1 ∧ i - 1 - q ≤ kx ∧ Aside (MovedTo d a b (upF (fun t => d[t]!) a q) dk) ∧ Aside (SWK enc k w0 blk off dk wr))
      case atStart => exact ⟨a, d, rfl, Nat.le_refl _, by omega, by omega, up_start d a b, S1⟩
      case round =>
        clear S1
        obtain ⟨q, dk, rfl, hq1, hq2, hkx, T1, S1⟩ := hrel
        have hds := T1.out.size
        by_cases hlt2 : q < i - 1
        · have hltz2 : (q : Int) < (i : Int) - 1 := by omega
          have ea : ((q : Int)).toNat = q := by omega
          have pa : (0 : Int) ≤ (q : Int) := by omega
          have ba : (q : Int) < (d.size : Int) := by omega
          have ec : ((q : Int) + 1).toNat = q + 1 := by omega
          have pc : (0 : Int) ≤ (q : Int) + 1 := by omega
          have bc : (q : Int) + 1 < (d.size : Int) := by omega
          have rc : IntKind.i64.wrap ((q : Int) + 1) = (q : Int) + 1 := by rw [IntKind.wrap_i64]; omega
          have T2 : Aside (MovedTo d a b (upF (fun t => d[t]!) a (q + 1)) (swp dk q (q + 1))) := up_step T1.out hq1 (by omega) hb
          have S2 : Aside (SWK enc k w0 blk off (swp dk q (q + 1)) ((wr.drew.setCells blk (off + q * k) (enc dk[q + 1]!)).setCells blk (off + (q + 1) * k) (enc dk[q]!))) := S1.out.swapped R q (q + 1) (by omega) (by omega)
          have l1 := S1.out.ld1 R (by omega) P q (by omega)
          have l2 := S1.out.ld1 R (by omega) P (q + 1) (by omega)
          have s1 := S1.out.st1 R (by omega) P q (by omega) dk[q + 1]!
          have s2 := S1.out.st2 R (by omega) P q (q + 1) (by omega) (by omega) dk[q + 1]! dk[q]!
          have n1 : (enc dk[q]!).length = k := R.hk _
          have n2 : (enc dk[q + 1]!).length = k := R.hk _
          generalize enc dk[q]! = cI at S2 l1 s2 n1
          generalize enc dk[q + 1]! = cJ at S2 l2 s1 s2 n2
          clear S1 T1
          go_wp2_with fail
          go_big_region_o
          clear l1 l2 s1 s2
          generalize (wr.drew.setCells blk (off + q * k) cJ).setCells blk (off + (q + 1) * k) cI = w2 at S2 ⊢
          go_wp2
          go_roundg (i - 1 - (q + 1))
          case measure => omega
          case rel => exact ⟨q + 1, swp dk q (q + 1), by go_num, by omega, by omega, Nat.le_refl _, T2, S2⟩
        · have HQI : Aside (q = i - 1) := by show q = i - 1; omega
          have hltz2 : ¬ (q : Int) < (i : Int) - 1 := by omega
          go_wp2_with fail
          have T2 := T1.out
          rw [HQI.out] at T2
          exact bodyPost_ret (results_none rfl _ _ _) rfl ⟨rfl, dk, ⟨T2.perm, up_sorted hO HS.out h1 h3 hlo hhi T2⟩, S1.out⟩
set_option maxHeartbeats 4000000 in
set_option maxRecDepth 1000000 in
theorem merge_last (L : StL P) (k : Nat) (aE : ∀ w, (isAgg 95).run P w = .ok true w) (zE : ∀ w, (Go.sizeOf 95).run P w = .ok k w) (enc : α → List Value) (cf : α → α → Int) (hO : SWO (ltOf cf)) (g : Nat) (cb : Array Value) (blk off cap a m b : Nat) (d0 d : Array α) (w0 w : World)
    (eg : ∀ args w, (callFunc g args).run P w = .ok (.enter g args) w) (hcmp : CmpLays P g cb enc k cf blk off d0.size w0) (R : RowK enc k w0 blk off d0) (hs : d0.size = d.size) (S : SWK enc k w0 blk off d w) (ham : a + 1 < m) (hm : b = m + 1) (hb : b ≤ d.size) (hsz : d.size < 4611686018427387904) (hsort : SortedIn (ltOf cf) a m d) :
    Calls P 71 #[.slice (some ⟨blk, off, none⟩) d.size cap, .int .i64 a, .int .i64 m, .int .i64 b, .func (.func g) #[] cb] w fun e w' => e = .returned (.tuple #[]) ∧ ∃ dk, (PermIn a b d dk ∧ SortedIn (ltOf cf) a b dk) ∧ SWK enc k w0 blk off dk w' := by
  have mixed := L.mixed; have t0 := L.t0; have a0 := L.a0; have z0 := L.z0; have v0 := L.v0; have t3 := L.t3; have a3 := L.a3; have z3 := L.z3; have v3 := L.v3; have t4 := L.t4; have a4 := L.a4; have z4 := L.z4; have v4 := L.v4; have t78 := L.t78; have a78 := L.a78; have z78 := L.z78; have v78 := L.v78; have t103 := L.t103; have a103 := L.a103; have z103 := L.z103; have v103 := L.v103
  have t138 := L.t138; have a138 := L.a138; have z138 := L.z138; have v138 := L.v138
  have F := L.f71
  have S0 : Aside (SWK enc k w0 blk off d w) := S
  have HS : Aside (SortedIn (ltOf cf) a m d) := hsort
  have HC : Aside (CmpLays P g cb enc k cf blk off d0.size w0) := hcmp
  have HM : Aside (b = m + 1) := hm
  have hbq : ((m : Int) - (a : Int) == 1) = false := by simp; omega
  have hbq2 : ((b : Int) - (m : Int) == 1) = true := by rw [hm]; simp; omega
  have hmb : m < b := by omega
  have hmb2 : b ≤ m + 1 := by omega
  clear S hsort hcmp hm
  go_enter F, Try.ntmps71
  go_wp2
  go_loopg [14, 15] (m - a) (fun kx s10 s11 wr => ∃ (i j : Nat), s10 = .int .i64 i ∧ s11 = .int .i64 j ∧ a ≤ i ∧ i ≤ j ∧ j ≤ m ∧ j - i ≤ kx ∧ (∀ t, a ≤ t → t < i → ltOf cf d[m]! d[t]! = false) ∧ (∀ t, j ≤ t → t < m → ltOf cf d[m]! d[t]! = true) ∧ Aside (SWK enc k w0 blk off d wr))
  case atStart => exact ⟨a, m, rfl, rfl, by omega, by omega, by omega, by omega, fun t h1 h2 => by omega, fun t h1 h2 => by omega, S0⟩
  case round =>
    clear S0
    obtain ⟨i, j, rfl, rfl, h1, h2, h3, hkx, hlo, hhi, S1⟩ := hrel
    by_cases hlt : i < j
    · have hltz : (i : Int) < (j : Int) := by omega
      go_wp2_with fail
      obtain ⟨h, hh⟩ : ∃ h, h = (i + j) / 2 := ⟨_, rfl⟩
      rw [show ((i : Int) + (j : Int)) / 2 = (h : Int) from by omega]
      have hh1 : i ≤ h := by omega
      have hh2 : h < j := by omega
      clear hh
      have ea : ((h : Int)).toNat = h := by omega
      have pa : (0 : Int) ≤ (h : Int) := by omega
      have ba : (h : Int) < (d.size : Int) := by omega
      have ea2 : ((m : Int)).toNat = m := by omega
      have pa2 : (0 : Int) ≤ (m : Int) := by omega
      have ba2 : (m : Int) < (d.size : Int) := by omega
      obtain ⟨x, hx⟩ : ∃ x, x = d[m]! := ⟨_, rfl⟩
      obtain ⟨y, hy⟩ : ∃ y, y = d[h]! := ⟨_, rfl⟩
      have l1 := S1.out.ld R (by omega) P m (by omega)
      have l2 := S1.out.ld R (by omega) P h (by omega)
      rw [← hx] at l1
      rw [← hy] at l2
      have hc := S1.out.cmp HC.out (by omega) x y
      have HX : Aside (x = d[m]! ∧ y = d[h]!) := ⟨hx, hy⟩
      clear hx hy
      by_cases hv : cf x y < 0
      · have hd : decide (cf x y < 0) = true := decide_eq_true hv
        go_quiet_grown (first | (go_at_fn g; refine Calls.grown_of (hc _ _)))
        have S2 : Aside (SWK enc k w0 blk off d (grow (wr.drewN nq) osq)) := S1.out.grown nq osq
        clear l1 l2 hc S1
        generalize grow (wr.drewN nq) osq = w2 at S2 ⊢
        go_wp2
        go_roundg (h - i)
        case measure => omega
        case rel =>
          have hl : ltOf cf d[m]! d[h]! = true := by rw [← HX.out.1, ← HX.out.2]; exact hd
          exact ⟨i, h, rfl, by go_num, by omega, by omega, by omega, Nat.le_refl _, hlo, fun t h4 h5 => above_lt hO HS.out (by omega) h4 h5 hl, S2⟩
      · have hd : decide (cf x y < 0) = false := decide_eq_false hv
        go_quiet_grown (first | (go_at_fn g; refine Calls.grown_of (hc _ _)))
        have S2 : Aside (SWK enc k w0 blk off d (grow (wr.drewN nq) osq)) := S1.out.grown nq osq
        clear l1 l2 hc S1
        generalize grow (wr.drewN nq) osq = w2 at S2 ⊢
        go_wp2
        go_roundg (j - (h + 1))
        case measure => omega
        case rel =>
          have hl : ltOf cf d[m]! d[h]! = false := by rw [← HX.out.1, ← HX.out.2]; exact hd
          exact ⟨h + 1, j, by go_num, rfl, by omega, by omega, by omega, Nat.le_refl _, fun t h4 h5 => below_nlt hO HS.out h4 (by omega) (by omega) hl, hhi, S2⟩
    · have hij : i = j := by omega
      subst hij
      have hltz : ¬ (i : Int) < (i : Int) := by omega
      go_wp2_with fail
      go_loopg [17] (m - i) (fun kx s13 wr => ∃ (q : Nat) (dk : Array α), s13 = .int .i64 q ∧ i ≤ q ∧ q ≤ m ∧ q - i ≤ kx ∧ Aside (MovedTo d a b (downF (fun t => d[t]!) m q) dk) ∧ Aside (SWK enc k w0 blk off dk wr))
      case atStart => exact ⟨m, d, rfl, by omega, Nat.le_refl _, by omega, down_start d a b m, S1⟩
      case round =>
        clear S1
        obtain ⟨q, dk, rfl, hq1, hq2, hkx, T1, S1⟩ := hrel
        have hds := T1.out.size
        by_cases hlt2 : i < q
        · obtain ⟨r, rfl⟩ : ∃ r, q = r + 1 := ⟨q - 1, by omega⟩
          have hltz2 : (i : Int) < (r : Int) + 1 := by omega
          have ea : ((r : Int)).toNat = r := by omega
          have pa : (0 : Int) ≤ (r : Int) := by omega
          have ba : (r : Int) < (d.size : Int) := by omega
          have ra : IntKind.i64.wrap (r : Int) = (r : Int) := by rw [IntKind.wrap_i64]; omega
          have ec : ((r : Int) + 1).toNat = r + 1 := by omega
          have pc : (0 : Int) ≤ (r : Int) + 1 := by omega
          have bc : (r : Int) + 1 < (d.size : Int) := by omega
          have rc : IntKind.i64.wrap ((r : Int) + 1) = (r : Int) + 1 := by rw [IntKind.wrap_i64]; omega
          have T2 : Aside (MovedTo d a b (downF (fun t => d[t]!) m r) (swp dk (r + 1) r)) := down_step T1.out (by omega) (by omega) hmb hb
          have S2 : Aside (SWK enc k w0 blk off (swp dk (r + 1) r) ((wr.drew.setCells blk (off + (r + 1) * k) (enc dk[r]!)).setCells blk (off + r * k) (enc dk[r + 1]!))) := S1.out.swapped R (r + 1) r (by omega) (by omega)
          have l1 := S1.out.ld1 R (by omega) P r (by omega)
          have l2 := S1.out.ld1 R (by omega) P (r + 1) (by omega)
          have s1 := S1.out.st1 R (by omega) P (r + 1) (by omega) dk[r]!
          have s2 := S1.out.st2 R (by omega) P (r + 1) r (by omega) (by omega) dk[r]! dk[r + 1]!
          have n1 : (enc dk[r]!).length = k := R.hk _
          have n2 : (enc dk[r + 1]!).length = k := R.hk _
          generalize enc dk[r]! = cI at S2 l1 s1 s2 n1
          generalize enc dk[r + 1]! = cJ at S2 l2 s2 n2
          clear S1 T1
          go_wp2_with fail
          go_big_region_o
          clear l1 l2 s1 s2
          generalize (wr.drew.setCells blk (off + (r + 1) * k) cI).setCells blk (off + r * k) cJ = w2 at S2 ⊢
          go_wp2
          go_roundg (r - i)
          case measure => omega
          case rel => exact ⟨r, swp dk (r + 1) r, by go_num, by omega, by omega, Nat.le_refl _, T2, S2⟩
        · have HQI : Aside (q = i) := by show q = i; omega
          have hltz2 : ¬ (i : Int) < (q : Int) := by omega
          go_wp2_with fail
          have T2 := T1.out
          rw [HQI.out] at T2
          refine bodyPost_ret (results_none rfl _ _ _) rfl ⟨rfl, dk, ⟨T2.perm, ?_⟩, S1.out⟩
          have e := HM.out
          subst e
          exact down_sorted hO HS.out h1 h3 hlo hhi T2
end
end Go.Proofs.Ytkdnkjjnmadhgaa.Dev
