import Derived.Test.YtkdnkjjnmadhgaaAA
import Derived.Test.YtkdnkjjnmadhgaaDX
import Derived.Test.YtkdnkjjnmadhgaaDP
import Derived.Test.YtkdnkjjnmadhgaaDW
set_option linter.unusedVariables false
set_option linter.unusedSimpArgs false
/-! A bus that there is not. -/
namespace Go.Proofs.Ytkdnkjjnmadhgaa.Dev
open Go.RowKit Go.Maps Go.Lib

set_option maxRecDepth 100000 in
theorem nil_pending (w : World) : Calls Try.prog 20 #[.pointer none] w fun e w' => e = .returned (.int .i64 0) ∧ w' = w := by
  go_enter Try.func20, Try.ntmps20
  go_wp2
  go_ret
  exact ⟨rfl, rfl⟩
set_option maxRecDepth 100000 in
theorem nil_disk (w : World) (x : Int) : Calls Try.prog 22 #[.pointer none, .int .i64 x] w fun e w' => e = .returned (.tuple #[.slice none 0 0, .int .i64 3]) ∧ w' = w := by
  go_enter Try.func22, Try.ntmps22
  go_wp2
  go_ret2
  exact ⟨rfl, rfl⟩
set_option maxRecDepth 100000 in
theorem nil_written (w : World) (x : Int) : Calls Try.prog 26 #[.pointer none, .int .i64 x] w fun e w' => e = .returned (.tuple #[.slice none 0 0, .int .i64 3]) ∧ w' = w := by
  go_enter Try.func26, Try.ntmps26
  go_wp2
  go_ret2
  exact ⟨rfl, rfl⟩
set_option maxRecDepth 100000 in
theorem nil_next (w : World) : Calls Try.prog 27 #[.pointer none] w fun e w' => e = .returned (.tuple #[.int .i64 0, .bool false]) ∧ w' = w := by
  go_enter Try.func27, Try.ntmps27
  go_wp2
  go_ret2
  exact ⟨rfl, rfl⟩
set_option maxRecDepth 100000 in
theorem nil_until (w : World) (x : Int) : Calls Try.prog 29 #[.pointer none, .int .i64 x] w fun e w' => e = .returned (.slice none 0 0) ∧ w' = w := by
  go_enter Try.func29, Try.ntmps29
  go_wp2
  go_ret
  exact ⟨rfl, rfl⟩
set_option maxRecDepth 100000 in
theorem nil_set (w : World) (x : Int) (v : Value) : Calls Try.prog 30 #[.pointer none, .int .i64 x, v] w fun e w' => e = .returned (.int .i64 3) ∧ w' = w := by
  go_enter Try.func30, Try.ntmps30
  go_wp2
  go_ret
  exact ⟨rfl, rfl⟩
set_option maxRecDepth 100000 in
theorem nil_send (w : World) (x y : Int) (c0 c1 c2 c3 c4 : Value) : Calls Try.prog 28 #[.pointer none, .int .i64 x, .int .i64 y, .agg #[c0, c1, c2, c3, c4]] w fun e w' => e = .returned (.int .i64 3) ∧ Below w.heap.size w w' := by
  have hb : Below w.heap.size w (w.alloc (.cells #[c0, c1, c2, c3, c4] 41)) := (Below.refl _ _).alloc (Nat.le_refl _) _
  go_enter Try.func28, Try.ntmps28
  go_wp2
  go_ret
  exact ⟨rfl, hb⟩
end Go.Proofs.Ytkdnkjjnmadhgaa.Dev
/-! awake(): the first example of the chapter. -/
namespace Go.Proofs.Ytkdnkjjnmadhgaa.Dev
open Go.RowKit Go.Maps Go.Lib

/-- A new disk. -/
def disk0 (n : Nat) : PD := ⟨List.replicate n zeros, List.replicate n zeros, [], [], 0, 0⟩
/-- A bus with one disk is made. -/
theorem new_sys (w : World) (g off n : Nat) (hl : OneCfg w g off 2 n) (h16 : 16 ≤ n) (hn : n ≤ 256) :
    Calls Try.prog 23 #[.slice (some ⟨g, off, none⟩) 1 1] w fun e w' => e = .returned (.tuple #[ptr w.heap.size, .int .i64 0]) ∧ Below w.heap.size w w' ∧ ∃ d bm dm, Sys w.heap.size w' w.heap.size d bm dm (disk0 n) ∧ bm.now = 0 ∧ bm.sent = 0 ∧ bm.told = 0 ∧ bm.rs = [] := by
  refine (new_one w g off 2 n hl 81 (fun W v => ∃ d dm, v = .iface 81 (ptr d) ∧ DRep w.heap.size W d dm (disk0 n)) ?_ ?_).mono ?_
  · intro W' hW'
    refine (build_disk W' w.heap.size hW'.size n h16 hn).mono ?_
    rintro e w'' ⟨d, m, rfl, _, hb, hd⟩
    exact ⟨d, rfl, hb, d, m, rfl, hd⟩
  · rintro W' W'' v cur ⟨d, dm, rfl, hd⟩ hc hk
    refine ⟨d, dm, rfl, hd.keep fun k hk1 ho => hk k hk1 fun e => ?_⟩
    subst e
    rcases ho with ho | ho | ⟨cur', ty, hc', ht⟩
    · obtain ⟨_, cur', ty, hc', ht⟩ := hd.own_tys ho
      rw [hc] at hc'
      simp at hc'
      obtain ⟨_, rfl⟩ := hc'
      simp at ht
    · exact Nat.lt_irrefl _ ho
    · rw [hc] at hc'
      simp at hc'
      obtain ⟨_, rfl⟩ := hc'
      simp at ht
  · rintro e w' ⟨rfl, vd, v, hb, ⟨d, dm, rfl, hd⟩, hbel⟩
    exact ⟨rfl, hbel, d, _, dm, ⟨hb, hd, rfl⟩, rfl, rfl, rfl, rfl⟩
/-- A block is read. -/
theorem sys_read (w : World) (B b d : Nat) (bm : BM) (dm : DM) (p : PD) (h : Sys B w b d bm dm p) (at_ pk a_ b_ : Int) (dv : Sl)
    (hat : bm.now ≤ at_) (hat1 : at_ ≤ 1000000000) (hsent : 0 ≤ bm.sent ∧ bm.sent < 400) (hrs : bm.rs.length ≤ 100000)
    (hf : DFit p ⟨pk, 1, a_, b_, dv, at_, bm.sent⟩) (ha : 0 ≤ a_) (xs : List Value) (hx : p.blocks[a_.toNat]? = some xs) (hdata : dv.2.1 = 0) (hbad : a_ ∉ p.bad) :
    Calls Try.prog 28 #[ptr b, .int .i64 1, .int .i64 at_, .agg #[.int .i64 pk, .int .i64 1, .int .i64 a_, .int .i64 b_, slv dv]] w fun e w' => e = .returned (.int .i64 0) ∧ Sent B w w' b d bm dm { p with arm := a_, free := moveF p ⟨pk, 1, a_, b_, dv, at_, bm.sent⟩ } at_ pk (moveF p ⟨pk, 1, a_, b_, dv, at_, bm.sent⟩) 0 xs := by
  refine sys_send w B b d bm dm p _ h at_ pk 1 a_ b_ dv hat hat1 (by decide) hsent (by omega) hrs _ 0 xs fun W' hd' _ => ?_
  refine (send_read W' B d dm p _ hd' hf rfl ha xs hx hdata hbad).mono ?_
  rintro e w'' ⟨h1, h2, h3⟩
  exact ⟨h1, ⟨dm, h2⟩, h3.mono fun k _ e => .inl e⟩
/-- The two requests of the example. -/
def awRq (j : Nat) : Int × Int × Int × Int × Sl := if j = 0 then (1, 1, 5, 0, (none, 0, 0)) else (2, 1, 3, 0, (none, 0, 0))
def awDisk : Nat → PD
  | 0 => disk0 16
  | 1 => { disk0 16 with arm := 5, free := 6 }
  | _ => { disk0 16 with arm := 3, free := 9 }
def AwRs : Nat → List Rp → Prop
  | 0, rs => rs = []
  | 1, rs => ∃ dv, rs = [⟨1, 6, 0, dv, 1, 0⟩]
  | _, rs => ∃ dv1 dv2 : Sl, rs = [⟨1, 6, 0, dv1, 1, 0⟩, ⟨2, 9, 0, dv2, 1, 1⟩] ∧ dv2.2.1 = 64
def AwSt (w : World) (j : Nat) (wr : World) : Prop :=
  ∃ d bm dm, Sys w.heap.size wr w.heap.size d bm dm (awDisk j) ∧ Below w.heap.size w wr ∧ bm.now ≤ (j : Int) ∧ bm.sent = (j : Int) ∧ bm.told = 0 ∧ AwRs j bm.rs
theorem awRs_len : ∀ {j : Nat} {rs : List Rp}, AwRs j rs → rs.length ≤ 2
  | 0, rs, h => by have h : rs = [] := h; rw [h]; simp
  | 1, rs, ⟨dv, h⟩ => by rw [h]; simp
  | _ + 2, rs, ⟨d1, d2, h, _⟩ => by rw [h]; simp
/-- What Play gives in the example. -/
def AwOut (w : World) (v : Value) (w' : World) : Prop := ∃ dv1 dv2 : Sl, w'.ownsRow w.heap.size 46 4 v 2 ([.int .i64 1, .int .i64 6, .int .i64 0, slv dv1] ++ [.int .i64 2, .int .i64 9, .int .i64 0, slv dv2]) ∧ dv2.2.1 = 64 ∧ Below w.heap.size w w'
theorem sent_frame {B : Nat} {w w' : World} {b d : Nat} {bm : BM} {dm : DM} {p p' : PD} {at_ pk t res : Int} {xs : List Value} (h : Sys B w b d bm dm p) (hs : Sent B w w' b d bm dm p' at_ pk t res xs) (k : Nat) (cur : Array Value) (hk : w.heap[k]? = some (.cells cur 41 (0, 0))) : w'.heap[k]? = w.heap[k]? :=
  hs.touch.block k (blt hk) fun e => by
    obtain ⟨_, cur', ty, hc, ht⟩ := h.tys e
    rw [hk] at hc
    simp at hc
    obtain ⟨_, rfl⟩ := hc
    simp at ht
theorem sent_below {w0 : World} {w w' : World} {b d : Nat} {bm : BM} {dm : DM} {p p' : PD} {at_ pk t res : Int} {xs : List Value} (h : Sys w0.heap.size w b d bm dm p) (hs : Sent w0.heap.size w w' b d bm dm p' at_ pk t res xs) (hb : Below w0.heap.size w0 w) : Below w0.heap.size w0 w' :=
  hb.trans (hs.touch.below hb.size fun k hk => (h.tys hk).1)
set_option maxRecDepth 10000 in
theorem aw_send (w : World) (j : Nat) (hj : j < 2) (wr : World) (h : AwSt w j wr) :
    Calls Try.prog 28 #[ptr w.heap.size, .int .i64 1, .int .i64 (j : Int), .agg (reqC (awRq j)).toArray] wr fun e w' => e = .returned (.int .i64 0) ∧ AwSt w (j + 1) w' ∧ ∀ (k : Nat) (cur : Array Value), wr.heap[k]? = some (.cells cur 41 (0, 0)) → w'.heap[k]? = wr.heap[k]? := by
  obtain ⟨d, bm, dm, hsys, hbel, hnow, hsent, htold, hrs⟩ := h
  have hlen := awRs_len hrs
  have hz : zeros.length = 64 := by decide
  obtain rfl | rfl : j = 0 ∨ j = 1 := by omega
  · refine (sys_read wr w.heap.size w.heap.size d bm dm (disk0 16) hsys 0 1 5 0 (none, 0, 0) (by omega) (by decide) (by omega) (by omega) ?_ (by decide) zeros rfl rfl (by simp [disk0])).mono ?_
    · exact ⟨by show (0 : Int) ≤ 0; decide, by show (0 : Int) ≤ 1000000000; decide, by decide, by decide, by decide, by decide, by decide, by decide, fun xs hx => by
        have := List.eq_of_mem_replicate hx
        rw [this, hz]; decide⟩
    · rintro e w' ⟨rfl, hS⟩
      refine ⟨rfl, ?_, sent_frame hsys hS⟩
      obtain ⟨bm', dm', dv, h1, h2, h3, h4, h5, h6, h7⟩ := hS.ex
      have hr0 : bm.rs = [] := hrs
      have hs0 : bm.sent = 0 := hsent
      rw [hr0, List.nil_append, hs0] at h6
      refine ⟨d, bm', dm', h1, sent_below hsys hS hbel, by rw [h3]; decide, by rw [h4, hs0]; rfl, by rw [h5, htold], dv, ?_⟩
      exact List.perm_singleton.1 h6
  · refine (sys_read wr w.heap.size w.heap.size d bm dm (awDisk 1) hsys 1 2 3 0 (none, 0, 0) hnow (by decide) (by omega) (by omega) ?_ (by decide) zeros rfl rfl (by simp [awDisk, disk0])).mono ?_
    · exact ⟨by show (0 : Int) ≤ 1; decide, by show (1 : Int) ≤ 1000000000; decide, by decide, by decide, by decide, by decide, by decide, by decide, fun xs hx => by
        have := List.eq_of_mem_replicate hx
        rw [this, hz]; decide⟩
    · rintro e w' ⟨rfl, hS⟩
      refine ⟨rfl, ?_, sent_frame hsys hS⟩
      obtain ⟨bm', dm', dv, h1, h2, h3, h4, h5, h6, h7⟩ := hS.ex
      obtain ⟨dv1, hr1⟩ : ∃ dv, bm.rs = [⟨1, 6, 0, dv, 1, 0⟩] := hrs
      have hs1 : bm.sent = 1 := hsent
      have e9 : moveF (awDisk 1) ⟨2, 1, 3, 0, (none, 0, 0), 1, 1⟩ = 9 := by decide
      rw [hr1, hs1, e9] at h6
      refine ⟨d, bm', dm', h1, sent_below hsys hS hbel, by rw [h3]; decide, by rw [h4, hs1]; rfl, by rw [h5, htold], dv1, dv, ?_, ?_⟩
      · refine sorted_one h6 h7 ?_ ?_
        · refine List.pairwise_cons.2 ⟨fun y hy => ?_, List.pairwise_singleton _ _⟩
          rw [List.mem_singleton.1 hy]
          show ¬ (_ ∨ _)
          simp
        · intro x hx y hy hxy hyx
          have hx := h6.mem_iff.1 hx
          have hy := h6.mem_iff.1 hy
          simp only [List.cons_append, List.nil_append, List.mem_cons, List.not_mem_nil, or_false] at hx hy
          unfold RLt at hxy hyx
          rcases hx with rfl | rfl <;> rcases hy with rfl | rfl
          · rfl
          · simp at hxy
          · simp at hyx
          · rfl
      · rw [← h2.1, hz]
theorem aw_until (w wr : World) (h : AwSt w 2 wr) : Calls Try.prog 29 #[ptr w.heap.size, .int .i64 1000000000] wr fun e w' => ∃ v : Sl, e = .returned (slv v) ∧ AwOut w (slv v) w' := by
  obtain ⟨d, bm, dm, hsys, hbel, hnow, hsent, htold, dv1, dv2, hrs, h64⟩ := h
  refine (until_any wr w.heap.size w.heap.size bm hsys.bus 1000000000 (by omega) (by rw [hrs]; simp) (by rw [htold]; decide)).mono ?_
  rintro e w' ⟨v, j, rfl, hj, _, hd, hrow, ht, _⟩
  rw [hrs] at hj hd hrow
  have hj2 : j = 2 := by
    have hj : j ≤ 2 := hj
    obtain rfl | rfl | rfl : j = 0 ∨ j = 1 ∨ j = 2 := by omega
    · have := hd _ _ rfl; simp at this
    · have := hd _ _ rfl; simp at this
    · rfl
  subst hj2
  refine ⟨v, rfl, dv1, dv2, ?_, h64, hbel.trans (ht.below hbel.size fun k hk => by rw [hk]; exact Nat.le_refl _)⟩
  exact own_base hrow hbel.size
theorem aw_play (w : World) (gc gr gd gt : Nat) (hc : OneCfg w gc 0 2 16) (hP : PlanRep w w.heap.size gr gd gt 2 awRq (fun _ => 1) (fun j => j)) :
    Calls Try.prog 13 #[.slice (some ⟨gc, 0, none⟩) 1 1, .slice (some ⟨gr, 0, none⟩) 2 2, .slice (some ⟨gd, 0, none⟩) 2 2, .slice (some ⟨gt, 0, none⟩) 2 2] w fun e w' => ∃ v : Sl, e = .returned (.tuple #[slv v, .int .i64 0]) ∧ AwOut w (slv v) w' := by
  refine play_ok w _ gr gd gt w.heap.size 2 awRq (fun _ => 1) (fun j => j) hP (AwSt w) (AwOut w) (by decide) ?_ ?_ ?_ (fun j hj wr h => aw_send w j hj wr h) (fun wr h => aw_until w wr h)
  · refine (new_sys w gc 0 16 hc (by decide) (by decide)).mono ?_
    rintro e w' ⟨rfl, hb, d, bm, dm, hs, h1, h2, h3, h4⟩
    exact ⟨rfl, d, bm, dm, hs, hb, by rw [h1]; decide, h2, h3, h4⟩
  · rintro j wr ⟨d, bm, dm, h1, h2, _⟩
    exact h2
  · rintro j wr w' ⟨d, bm, dm, h1, h2, h3⟩ hb
    exact ⟨d, bm, dm, h1.keep fun k hk _ => hb.block k hk, h2.trans (hb.mono h2.size), h3⟩
theorem aw_cells {w : World} {v : Sl} {w' : World} (h : AwOut w (slv v) w') : ∃ g cap A n, v = (some ⟨g, 0, none⟩, 2, cap) ∧ w'.cell? ⟨g, 1, none⟩ = some (.int .i64 6) ∧ w'.cell? ⟨g, 5, none⟩ = some (.int .i64 9) ∧ w'.cell? ⟨g, 7, none⟩ = some (.slice A 64 n) ∧ Below w.heap.size w w' := by
  obtain ⟨dv1, dv2, hrow, h64, hb⟩ := h
  obtain ⟨g, cap, hv, _, _⟩ := hrow.form (by decide)
  have hv' : v = (some ⟨g, 0, none⟩, 2, cap) := by
    obtain ⟨a, b, c⟩ := v
    injection hv with e1 e2 e3
    subst e1 e2 e3
    rfl
  subst hv'
  have hc := hrow.cells (g := g) rfl
  have e : ∀ j, (⟨g, 0, none⟩ : Addr).add j = ⟨g, j, none⟩ := fun j => by rw [Addr.add_lit, Nat.zero_add]
  refine ⟨g, cap, dv2.1, dv2.2.2, rfl, ?_, ?_, ?_, hb⟩
  · rw [← e]; exact hc 1 _ rfl
  · rw [← e]; exact hc 5 _ rfl
  · rw [← e, ← h64]; exact hc 7 _ rfl
set_option maxHeartbeats 1000000 in
set_option maxRecDepth 100000 in
theorem awake_any (w : World) : Calls Try.prog 12 #[] w fun e w' => e = .returned (.bool true) ∧ Below w.heap.size w w' := by
  obtain ⟨W1, hW1⟩ : ∃ W, W = w.alloc (.cells #[.int .i64 1, .int .i64 1, .int .i64 5, .int .i64 0, nilSl, .int .i64 2, .int .i64 1, .int .i64 3, .int .i64 0, nilSl] 41) := ⟨_, rfl⟩
  obtain ⟨W2, hW2⟩ : ∃ W, W = W1.alloc (.cells #[.int .i64 2, .int .i64 16, nilSl, nilSl, nilSl, nilSl] 54) := ⟨_, rfl⟩
  obtain ⟨W3, hW3⟩ : ∃ W, W = W2.alloc (.cells #[.int .i64 1, .int .i64 1] 3) := ⟨_, rfl⟩
  obtain ⟨W4, hW4⟩ : ∃ W, W = W3.alloc (.cells #[.int .i64 0, .int .i64 1] 3) := ⟨_, rfl⟩
  have s1 : W1.heap.size = w.heap.size + 1 := by rw [hW1]; simp
  have s2 : W2.heap.size = w.heap.size + 2 := by rw [hW2]; simp [s1]
  have s3 : W3.heap.size = w.heap.size + 3 := by rw [hW3]; simp [s2]
  have s4 : W4.heap.size = w.heap.size + 4 := by rw [hW4]; simp [s3]
  have g1 : W4.heap[w.heap.size]? = some (.cells #[.int .i64 1, .int .i64 1, .int .i64 5, .int .i64 0, nilSl, .int .i64 2, .int .i64 1, .int .i64 3, .int .i64 0, nilSl] 41 (0, 0)) := by
    rw [hW4]; refine alloc_old ?_ _
    rw [hW3]; refine alloc_old ?_ _
    rw [hW2]; refine alloc_old ?_ _
    rw [hW1]; exact alloc_new _ _
  have g2 : W4.heap[w.heap.size + 1]? = some (.cells #[.int .i64 2, .int .i64 16, nilSl, nilSl, nilSl, nilSl] 54 (0, 0)) := by
    rw [← s1, hW4]; refine alloc_old ?_ _
    rw [hW3]; refine alloc_old ?_ _
    rw [hW2]; exact alloc_new _ _
  have g3 : W4.heap[w.heap.size + 2]? = some (.cells #[.int .i64 1, .int .i64 1] 3 (0, 0)) := by
    rw [← s2, hW4]; refine alloc_old ?_ _
    rw [hW3]; exact alloc_new _ _
  have g4 : W4.heap[w.heap.size + 3]? = some (.cells #[.int .i64 0, .int .i64 1] 3 (0, 0)) := by
    rw [← s3, hW4]; exact alloc_new _ _
  have hb : Below w.heap.size w W4 := by
    rw [hW4, hW3, hW2, hW1]
    exact ((((Below.refl _ _).alloc (Nat.le_refl _) _).alloc (by simp) _).alloc (by simp; omega) _).alloc (by simp; omega) _
  have c13 := (aw_play W4 (w.heap.size + 1) w.heap.size (w.heap.size + 2) (w.heap.size + 3) (fun j u hu => by rw [cell_of g2, Nat.zero_add]; exact hu)
    ⟨fun j hj i hi => by
      rw [cell_of g1]
      obtain rfl | rfl : j = 0 ∨ j = 1 := by omega
      · obtain rfl | rfl | rfl | rfl | rfl : i = 0 ∨ i = 1 ∨ i = 2 ∨ i = 3 ∨ i = 4 := by omega
        all_goals rfl
      · obtain rfl | rfl | rfl | rfl | rfl : i = 0 ∨ i = 1 ∨ i = 2 ∨ i = 3 ∨ i = 4 := by omega
        all_goals rfl, fun j hj => by
      rw [cell_of g3]
      obtain rfl | rfl : j = 0 ∨ j = 1 := by omega
      all_goals rfl, fun j hj => by
      rw [cell_of g4]
      obtain rfl | rfl : j = 0 ∨ j = 1 := by omega
      all_goals rfl, by omega, by omega, by omega⟩)
  have c14 : Calls Try.prog 13 #[.slice (some ⟨w.heap.size + 1, 0, none⟩) 1 1, .slice (some ⟨w.heap.size, 0, none⟩) 2 2, .slice (some ⟨w.heap.size + 2, 0, none⟩) 2 2, .slice (some ⟨w.heap.size + 3, 0, none⟩) 2 2] W4 fun e w' => ∃ g cap A n, e = .returned (.tuple #[.slice (some ⟨g, 0, none⟩) 2 cap, .int .i64 0]) ∧ w'.cell? ⟨g, 1, none⟩ = some (.int .i64 6) ∧ w'.cell? ⟨g, 5, none⟩ = some (.int .i64 9) ∧ w'.cell? ⟨g, 7, none⟩ = some (.slice A 64 n) ∧ Below W4.heap.size W4 w' := by
    refine c13.mono ?_
    rintro e w' ⟨v, he, hv⟩
    obtain ⟨g, cap, A, n, rfl, q1, q5, q7, hb'⟩ := aw_cells hv
    exact ⟨g, cap, A, n, he, q1, q5, q7, hb'⟩
  have C13 := Lib.hid c14
  clear c14
  clear c13
  have HB := Lib.hid hb
  have S4 := Lib.hid s4
  clear g1 g2 g3 g4 hb s1 s2 s3 s4
  subst hW1
  subst hW2
  subst hW3
  subst hW4
  go_enter Try.func12, Try.ntmps12
  go_wp2_with (go_at_call 13; (refine (C13.out).mono ?_); rintro e w' ⟨g, cap, A, n, rfl, q1, q5, q7, hb'⟩; have HB' := Lib.hid hb'; clear hb')
  go_ret
  exact ⟨rfl, HB.out.trans (HB'.out.mono HB.out.size)⟩
end Go.Proofs.Ytkdnkjjnmadhgaa.Dev
