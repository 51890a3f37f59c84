import Derived.Test.YtkdnkjjnmadhgaaHE
import Derived.Test.YtkdnkjjnmadhgaaHB
import Derived.Test.YtkdnkjjnmadhgaaFE
import Derived.Test.YtkdnkjjnmadhgaaFK
set_option linter.unusedVariables false
set_option linter.unusedSimpArgs false
/-! A device of any kind. -/
namespace Go.Proofs.Ytkdnkjjnmadhgaa.Dev
open Go.RowKit Go.Maps Go.Lib

set_option maxHeartbeats 2000000 in
set_option maxRecDepth 100000 in
/-- A message that is too long. -/
theorem line_long (w : World) (B d : Nat) (q : Rq) (hB : B ≤ w.heap.size) (hq : q.do_ = 2) (hl : 64 < q.dv.2.1) :
    Calls Try.prog 100 #[ptr d, .agg (encQ q).toArray] w fun e w' => One B w q q.at_ (-3) [] e w' ∧ Below w.heap.size w w' := by
  obtain ⟨W, hW⟩ : ∃ W, W = w.alloc (.cells (encQ q).toArray 99) := ⟨_, rfl⟩
  have hbw : Below w.heap.size w W := by rw [hW]; exact (Below.refl _ _).alloc (Nat.le_refl _) _
  have gb : Box W w.heap.size q := by rw [hW]; exact alloc_new _ _
  have hbox : (encQ q).toArray = #[.int .i64 q.pk, .int .i64 2, .int .i64 q.a_, .int .i64 q.b_, .slice q.dv.1 q.dv.2.1 q.dv.2.2, .int .i64 q.at_, .int .i64 q.ord] := by
    unfold encQ
    rw [hq]
  have d1 : decide (64 < (q.dv.2.1 : Int)) = true := by simp; omega
  have C92 := Lib.hid (refuse_any W B q q.at_ 3 (Nat.le_trans hB hbw.size) (by decide))
  rw [hbox] at C92
  unfold encR at C92
  clear hbox
  generalize hQ : (Value.agg (encQ q).toArray) = Q
  go_enter Try.func100, Try.ntmps100
  subst hQ
  go_upto_block 0 with (fail)
  rw [← hW]
  obtain ⟨z0, z1, z2, z3, z4, z5, z6⟩ := gb.all
  rw [hq] at z1
  have HB := Lib.hid hbw
  clear hW gb hbw hq hB
  go_wp2_with (go_at_call 92; (refine (C92.out).mono ?_); rintro e w5 ⟨dv, rfl, hb5, hd5⟩; have HB5 := Lib.hid hb5; have HD5 := Lib.hid hd5; clear hb5 hd5)
  go_ret
  exact ⟨One.mk5 (Nat.le_trans HB.out.size HB5.out.size) HD5.out, (HB.out.trans (HB5.out.mono HB.out.size)).alloc (Nat.le_trans HB.out.size HB5.out.size) _⟩

/-- A device, without memory. -/
inductive PDv where
  | clock
  | disk (p : PD)
  | term (p : PT)
  | line (p : PL)
/-- The greatest request that a device has. -/
def mostDo : PDv → Int
  | .clock => 1
  | .disk _ => 3
  | .term _ => 2
  | .line _ => 2
def termF (p : PT) (q : Rq) (data : List Value) : PT × Int × Int :=
  if q.do_ = 2 then ({ p with free := IntKind.i64.wrap (max q.at_ p.free + (data.length : Int)) }, IntKind.i64.wrap (max q.at_ p.free + (data.length : Int)), (data.length : Int))
  else match p.times, p.chars with
    | t0 :: ts, k0 :: ks => (⟨ts, ks, max (max q.at_ p.free) t0⟩, max (max q.at_ p.free) t0, k0)
    | _, _ => ({ p with free := max q.at_ p.free }, max q.at_ p.free, -1)
/-- What a device does with a request. -/
def devF : PDv → Rq → List Value → PDv × List Ans
  | .clock, q, _ => (.clock, [(q, (clockF q).1, (clockF q).2, [])])
  | .disk p, q, data => (.disk (diskF p q data).1, [(q, (diskF p q data).2.1, (diskF p q data).2.2.1, (diskF p q data).2.2.2)])
  | .term p, q, data => (.term (termF p q data).1, [(q, (termF p q data).2.1, (termF p q data).2.2, [])])
  | .line p, q, data => if q.do_ = 2 ∧ 64 < data.length then (.line p, [(q, q.at_, -3, [])]) else (.line (lineF p q data).1, (lineF p q data).2)
/-- A device in memory, with the blocks that it may write; N requests came. -/
def DevRep (B : Nat) (w : World) (v : Value) (S : Nat → Prop) (N : Nat) : PDv → Prop
  | .clock => v = .iface 119 (.agg #[]) ∧ ∀ k, ¬ S k
  | .disk p => ∃ d m, v = .iface 81 (ptr d) ∧ DRep B w d m p ∧ ∀ k, S k ↔ OwnD d m k
  | .term p => ∃ d m, v = .iface 93 (ptr d) ∧ TRep B w d m p ∧ m.sw.length ≤ N ∧ ∀ k, S k ↔ OwnT d m k
  | .line p => ∃ d m, v = .iface 125 (ptr d) ∧ LRep B w d m p ∧ ∀ k, S k ↔ OwnL d m k
section
variable {B : Nat} {w w' : World} {v : Value} {S : Nat → Prop} {N : Nat} {p : PDv}
theorem DevRep.tys (h : DevRep B w v S N p) {k : Nat} (hk : S k) : B ≤ k ∧ ∃ cur ty, w.heap[k]? = some (.cells cur ty (0, 0)) ∧ (ty = 106 ∨ ty = 39 ∨ ty = 116 ∨ ty = 124 ∨ ty = 128 ∨ ty = 99) := by
  cases p with
  | clock => exact absurd hk (h.2 k)
  | disk p =>
    obtain ⟨d, m, _, hr, hs⟩ := h
    obtain ⟨h1, cur, ty, h2, h3⟩ := hr.own_tys ((hs k).1 hk)
    exact ⟨h1, cur, ty, h2, by rcases h3 with rfl | rfl | rfl <;> simp⟩
  | term p =>
    obtain ⟨d, m, _, hr, _, hs⟩ := h
    obtain ⟨h1, cur, ty, h2, h3⟩ := hr.tys ((hs k).1 hk)
    exact ⟨h1, cur, ty, h2, by rcases h3 with rfl | rfl <;> simp⟩
  | line p =>
    obtain ⟨d, m, _, hr, hs⟩ := h
    obtain ⟨h1, cur, ty, h2, h3⟩ := hr.tys ((hs k).1 hk)
    exact ⟨h1, cur, ty, h2, by rcases h3 with rfl | rfl | rfl <;> simp⟩
/-- A device stays while its blocks, and what nobody writes, stay. -/
theorem DevRep.keep (h : DevRep B w v S N p) (hk : ∀ k, k < w.heap.size → (S k ∨ Still B w k) → w'.heap[k]? = w.heap[k]?) : DevRep B w' v S N p := by
  cases p with
  | clock => exact h
  | disk p =>
    obtain ⟨d, m, hv, hr, hs⟩ := h
    exact ⟨d, m, hv, hr.keep fun k hl ho => hk k hl (ho.imp (hs k).2 id), hs⟩
  | term p =>
    obtain ⟨d, m, hv, hr, hn, hs⟩ := h
    exact ⟨d, m, hv, hr.keep fun k hl ho => hk k hl (ho.imp (hs k).2 id), hn, hs⟩
  | line p =>
    obtain ⟨d, m, hv, hr, hs⟩ := h
    exact ⟨d, m, hv, hr.keep fun k hl ho => hk k hl (ho.imp (hs k).2 id), hs⟩
theorem DevRep.more {N' : Nat} (h : DevRep B w v S N p) (hn : N ≤ N') : DevRep B w v S N' p := by
  cases p with
  | term p =>
    obtain ⟨d, m, hv, hr, hl, hs⟩ := h
    exact ⟨d, m, hv, hr, Nat.le_trans hl hn, hs⟩
  | _ => exact h
/-- What touches a bus's rows alone. -/
theorem DevRep.touch {T : Nat → Prop} (h : DevRep B w v S N p) (ht : Touch w w' T) (hs : ∀ k, T k → B ≤ k ∧ ∃ cur ty, w.heap[k]? = some (.cells cur ty (0, 0)) ∧ (ty = 80 ∨ ty = 95)) : DevRep B w' v S N p :=
  h.keep fun k hk ho => ht.block k hk fun e => by
    obtain ⟨hb, cur, ty, hc, hty⟩ := hs k e
    rcases ho with ho | ho | ⟨cur', ty', hc', hty'⟩
    · obtain ⟨_, cur', ty', hc', hty'⟩ := h.tys ho
      rw [hc] at hc'
      simp at hc'
      obtain ⟨_, rfl⟩ := hc'
      rcases hty with rfl | rfl <;> simp at hty'
    · omega
    · rw [hc] at hc'
      simp at hc'
      obtain ⟨_, rfl⟩ := hc'
      rcases hty with rfl | rfl <;> simp at hty'
end
/-- The numbers of a device are as they should be, behind i requests. -/
def PInv (i : Nat) : PDv → Prop
  | .clock => True
  | .disk p => (∀ x ∈ p.blocks, x.length ≤ 64) ∧ p.blocks.length ≤ 256 ∧ p.bad.length ≤ 300 ∧ p.writes.length ≤ i ∧ 0 ≤ p.arm ∧ p.arm ≤ 256 ∧ 0 ≤ p.free ∧ p.free ≤ 1000000000 + 257 * i
  | .term p => p.times.length = p.chars.length ∧ Byt p.chars ∧ p.times.length ≤ 300
  | .line p => 0 ≤ p.free ∧ p.free ≤ 1000000000 + 10 * i ∧ p.sent ≤ i ∧ 0 ≤ p.sent ∧ p.lost.length ≤ 300 ∧ p.msgs.length ≤ i ∧ p.wait.length ≤ i ∧ ∀ x ∈ p.msgs, x.2.length ≤ 64
/-- A reply of a device in memory. -/
def RepA (B : Nat) (w : World) (r : Rp) (o : Ans) : Prop := r.pk = o.1.pk ∧ r.at_ = o.2.1 ∧ r.res = o.2.2.1 ∧ r.dev = 0 ∧ r.ord = o.1.ord ∧ Held B 5 w r.dv o.2.2.2
end Go.Proofs.Ytkdnkjjnmadhgaa.Dev
/-! A request is handed in to a device of any kind. -/
namespace Go.Proofs.Ytkdnkjjnmadhgaa.Dev
open Go.RowKit Go.Maps Go.Lib

theorem One.gave {B : Nat} {w w' : World} {q : Rq} {t res : Int} {xs : List Value} {e : Ending} (h : One B w q t res xs e w') :
    ∃ (l : List Rp) (v : Value), e = .returned v ∧ l ≠ [] ∧ l.length ≤ 1000 ∧ Gave w w' v l ∧ All2 (RepA B w') l [(q, t, res, xs)] := by
  obtain ⟨g, dv, rfl, hg, hc, hh⟩ := h
  exact ⟨[⟨q.pk, t, res, dv, 0, q.ord⟩], _, rfl, by simp, by simp, Gave.of_one hg (by rw [List.flatMap_singleton]; exact hc), All2.nil_.snoc (l := []) (m := []) ⟨rfl, rfl, rfl, rfl, rfl, hh⟩⟩
/-- What the device gave, and is then. -/
def DevGave (B : Nat) (w0 : World) (v : Value) (S : Nat → Prop) (N : Nat) (p' : PDv) (os : List Ans) (w1 : World) (l : List Rp) : Prop :=
  ∃ S', DevRep B w1 v S' N p' ∧ (∀ k, S' k → S k ∨ w0.heap.size ≤ k) ∧ All2 (RepA B w1) l os
/-- What Send of a bus does at a device. -/
def GenSent (B : Nat) (w w' : World) (b : Nat) (m : BM) (dev at_ : Int) (v : Value) (S : Nat → Prop) (N : Nat) (p' : PDv) (os : List Ans) : Prop :=
  ∃ l w1 m', DevGave B w v S N p' os w1 l ∧ (∃ c, w1.heap[b]? = some (.cells c 80 (0, 0))) ∧ Touch w w1 (fun k => S k ∨ k = b) ∧ Touch w1 w' (fun k => k = b ∨ oblock (slv m.vr) = some k) ∧ BRep B w' b m' ∧ Handed m m' at_ dev l w1

theorem PInv.fitD {i : Nat} {p : PD} (h : PInv i (.disk p)) (hi : i ≤ 100) {q : Rq} (h0 : 0 ≤ q.at_) (h1 : q.at_ ≤ 1000000000) : DFit p q := by
  obtain ⟨a1, a2, a3, a4, a5, a6, a7, a8⟩ := h
  exact ⟨h0, h1, a7, by omega, a5, by omega, by omega, by omega, fun xs hx => by have := a1 xs hx; omega⟩
theorem PInv.fitL {i : Nat} {p : PL} (h : PInv i (.line p)) (hi : i ≤ 100) : LFit p := by
  obtain ⟨a1, a2, a3, a4, a5, a6, a7, a8⟩ := h
  exact ⟨a1, by omega, a4, by omega, by omega, by omega, by omega, fun x hx => by have := a8 x hx; omega⟩
theorem lineF_few2 {i : Nat} {p : PL} (h : PInv i (.line p)) (hi : i ≤ 100) (q : Rq) (d : List Value) : (lineF p q d).2.length ≤ 1000 := by
  obtain ⟨a1, a2, a3, a4, a5, a6, a7, a8⟩ := h
  have h1 : ∀ (rc : Int) (ws : List Rq) (l : List (Int × List Value)), (matchF rc ws l).2.2.2.length ≤ ws.length := by
    intro rc ws
    induction ws generalizing rc with
    | nil => intro l; simp [matchF]
    | cons x ws ih =>
      intro l
      cases l with
      | nil => simp [matchF]
      | cons m l =>
        have := ih (max (max rc x.at_) m.1) l
        simp only [matchF, List.length_cons]
        omega
  unfold lineF meetF
  simp only [List.length_append, List.length_map]
  have h2 := h1 (addF p q d).1.recv (addF p q d).1.wait (addF p q d).1.msgs
  have h3 : (addF p q d).1.wait.length ≤ p.wait.length + 1 ∧ (addF p q d).2.length ≤ 1 := by
    unfold addF
    split <;> simp
  omega
theorem dev_send (w : World) (B b : Nat) (m : BM) (h : BRep B w b m) (dev at_ : Int) (hdev : 1 ≤ dev) (v : Value) (hd : m.ds[(dev - 1).toNat]? = some v) (p : PDv) (S : Nat → Prop) (N i : Nat) (hD : DevRep B w v S N p) (hi : PInv i p) (hi2 : i ≤ 100) (hN : N ≤ 100)
    (pk do_ a_ b_ : Int) (dv : Sl) (data : List Int) (hdat : Held B 5 w dv (bytes data)) (hdl : data.length ≤ 4000)
    (hat : m.now ≤ at_) (hat0 : 0 ≤ at_) (hat1 : at_ ≤ 1000000000) (hdo : 1 ≤ do_ ∧ do_ ≤ mostDo p) (hsent : 0 ≤ m.sent ∧ m.sent < 400) (hrs : m.rs.length ≤ 100000) :
    Calls Try.prog 28 #[ptr b, .int .i64 dev, .int .i64 at_, .agg #[.int .i64 pk, .int .i64 do_, .int .i64 a_, .int .i64 b_, slv dv]] w fun e w' => e = .returned (.int .i64 0) ∧ GenSent B w w' b m dev at_ v S (N + 1) (devF p ⟨pk, do_, a_, b_, dv, at_, m.sent⟩ (bytes data)).1 (devF p ⟨pk, do_, a_, b_, dv, at_, m.sent⟩ (bytes data)).2 := by
  have hdn : dv.2.1 = data.length := by rw [← hdat.1]; simp [bytes]
  have hdv : dv.2.1 ≤ 4000 := by omega
  have hdlen : (bytes data).length = data.length := by simp [bytes]
  have hSn : ∀ k, S k → k < w.heap.size := fun k hk => by obtain ⟨_, cur, ty, hc, _⟩ := hD.tys hk; exact blt hc
  have hno : ∀ {k : Nat} {cur : Array Value} {ty : TypeId}, w.heap[k]? = some (.cells cur ty (0, 0)) → (ty = 80 ∨ ty = 84 ∨ ty = 95) → ¬ S k := fun {k cur ty} hc ht hk => by
    obtain ⟨_, cur', ty', hc', ht'⟩ := hD.tys hk
    rw [hc] at hc'
    simp at hc'
    obtain ⟨_, rfl⟩ := hc'
    rcases ht with rfl | rfl | rfl <;> simp at ht'
  have hSb : ¬ S b := hno h.cells (.inl rfl)
  have hSd : ∀ g, (slv m.vd).ownBlock = some g → ¬ S g := fun g hg => by
    obtain ⟨_, cur, hc⟩ := own_block h.rd hg
    exact hno hc (.inr (.inl rfl))
  have hSr : ∀ g, oblock (slv m.vr) = some g → ¬ S g := fun g hg => by
    obtain ⟨_, cur, hc⟩ := h.rr.block hg
    exact hno hc (.inr (.inr rfl))
  have hty : ∀ k, k = b → B ≤ k ∧ ∃ cur ty, w.heap[k]? = some (.cells cur ty (0, 0)) ∧ (ty = 80 ∨ ty = 95) := fun k hk => h.tys (.inl hk)
  have hdat' : ∀ W', Touch w W' (· = b) → Held B 5 W' dv (bytes data) := fun W' hW' => hdat.touch5 hW' fun k hk => by
    obtain ⟨h1, cur, ty, h2, h3⟩ := hty k hk
    exact ⟨h1, cur, ty, h2, by rcases h3 with rfl | rfl <;> decide⟩
  have hBw : B ≤ w.heap.size := by have := h.low; have := blt h.cells; omega
  have fin : ∀ {e : Ending} {w' : World} {p' : PDv} {os : List Ans}, (e = .returned (.int .i64 0) ∧ ∃ l w1 m', DevGave B w v S (N + 1) p' os w1 l ∧ (∃ c, w1.heap[b]? = some (.cells c 80 (0, 0))) ∧ Touch w w1 (fun k => S k ∨ k = b) ∧ Touch w1 w' (fun k => k = b ∨ oblock (slv m.vr) = some k) ∧ BRep B w' b m' ∧ Handed m m' at_ dev l w1) → e = .returned (.int .i64 0) ∧ GenSent B w w' b m dev at_ v S (N + 1) p' os := fun hh => hh
  obtain ⟨q, hq⟩ : ∃ q : Rq, q = ⟨pk, do_, a_, b_, dv, at_, m.sent⟩ := ⟨_, rfl⟩
  have hqa : q.at_ = at_ := by rw [hq]
  have hqo : q.do_ = do_ := by rw [hq]
  have hqd : q.dv = dv := by rw [hq]
  rw [← hq]
  cases p with
  | clock =>
    obtain ⟨hv, hS⟩ := hD
    subst hv
    refine (send_clock w B b m h dev at_ hdev hd pk do_ a_ b_ dv hat hat1 hdo hsent hdv S (fun w1 l => DevGave B w (.iface 119 (.agg #[])) S (N + 1) .clock (devF .clock q (bytes data)).2 w1 l) hSn hSb hSd hSr hrs fun W' hW' => ?_).mono fun e w' hh => hh
    rw [← hq]
    refine (clock_send W' B q (Nat.le_trans hBw hW'.size) (by rw [hqa]; exact hat0) (by rw [hqa]; exact hat1)).mono ?_
    rintro e w'' ⟨hone, hbel⟩
    obtain ⟨l, v', he, h1, h2, h3, h4⟩ := hone.gave
    exact ⟨l, v', he, h1, h2, h3, Touch.of_below hbel, S, ⟨rfl, hS⟩, fun k hk => .inl hk, h4⟩
  | disk p =>
    have hD0 := hD
    obtain ⟨d, dm, hv, hr, hS⟩ := hD
    subst hv
    refine (send_disk w B b d m h dev at_ hdev hd pk do_ a_ b_ dv hat hat1 hdo hsent hdv S (fun w1 l => DevGave B w (.iface 81 (ptr d)) S (N + 1) (devF (.disk p) q (bytes data)).1 (devF (.disk p) q (bytes data)).2 w1 l) hSn hSb hSd hSr hrs fun W' hW' => ?_).mono fun e w' hh => hh
    rw [← hq]
    have hr' : DRep B W' d dm p := hr.touch hW' hty
    refine (disk_send W' B d dm p q hr' (hi.fitD hi2 (by rw [hqa]; exact hat0) (by rw [hqa]; exact hat1)) (by rw [hqo]; exact hdo) (bytes data) (by rw [hqd]; exact hdat' W' hW') (by have := hi.2.2.2.1; omega)).mono ?_
    rintro e w'' ⟨hone, ⟨dm', hr2, hown⟩, ht⟩
    obtain ⟨l, v', he, h1, h2, h3, h4⟩ := hone.gave
    exact ⟨l, v', he, h1, h2, h3, ht.mono fun k _ hk => (hS k).2 hk, OwnD d dm', ⟨d, dm', rfl, hr2, fun k => Iff.rfl⟩, fun k hk => (hown k hk).imp (hS k).2 fun hle => Nat.le_trans hW'.size hle, h4⟩
  | term p =>
    obtain ⟨d, tm, hv, hr, hl, hS⟩ := hD
    subst hv
    obtain ⟨c1, c2, c3⟩ := hi
    refine (send_term w B b d m h dev at_ hdev hd pk do_ a_ b_ dv hat hat1 hdo hsent hdv S (fun w1 l => DevGave B w (.iface 93 (ptr d)) S (N + 1) (devF (.term p) q (bytes data)).1 (devF (.term p) q (bytes data)).2 w1 l) hSn hSb hSd hSr hrs fun W' hW' => ?_).mono fun e w' hh => hh
    rw [← hq]
    have hr' : TRep B W' d tm p := hr.keep fun k hk ho => hW'.block k hk fun e => by
      obtain ⟨h1, cur, ty, h2, h3⟩ := hty k e
      rcases ho with ho | ho | ⟨cur', ty', h4, h5⟩
      · obtain ⟨_, cur', ty', h4, h5⟩ := hr.tys ho
        rw [h2] at h4
        simp at h4
        obtain ⟨_, rfl⟩ := h4
        rcases h3 with rfl | rfl <;> simp at h5
      · omega
      · rw [h2] at h4
        simp at h4
        obtain ⟨_, rfl⟩ := h4
        rcases h3 with rfl | rfl <;> simp at h5
    by_cases h2 : do_ = 2
    · have e1 : termF p q (bytes data) = ({ p with free := IntKind.i64.wrap (max q.at_ p.free + (q.dv.2.1 : Int)) }, IntKind.i64.wrap (max q.at_ p.free + (q.dv.2.1 : Int)), (q.dv.2.1 : Int)) := by
        unfold termF
        rw [if_pos (by rw [hqo]; exact h2), hdlen, hqd, hdn]
      refine (term_write W' B d tm p q hr' (by rw [hqo]; exact h2) (bytes data) (by rw [hqd]; exact hdat' W' hW') (by rw [hqd]; omega) (by omega)).mono ?_
      rintro e w'' ⟨hone, ⟨tm', hr2, hsw, hown⟩, ht⟩
      obtain ⟨l, v', he, h1, h2, h3, h4⟩ := hone.gave
      refine ⟨l, v', he, h1, h2, h3, ht.mono fun k _ hk => (hS k).2 hk, OwnT d tm', ?_, fun k hk => (hown k hk).imp (hS k).2 fun hle => Nat.le_trans hW'.size hle, ?_⟩
      · show DevRep B w'' _ _ _ (.term (termF p q (bytes data)).1)
        rw [e1]
        exact ⟨d, tm', rfl, hr2, by omega, fun k => Iff.rfl⟩
      · show All2 (RepA B w'') l [(q, (termF p q (bytes data)).2.1, (termF p q (bytes data)).2.2, [])]
        rw [e1]
        exact h4
    · have h1' : do_ = 1 := by have := hdo.2; simp only [mostDo] at this; omega
      have hne : ¬ q.do_ = 2 := by rw [hqo]; exact h2
      rcases ht : p.times with _ | ⟨t0, ts⟩
      · have e1 : termF p q (bytes data) = ({ p with free := max q.at_ p.free }, max q.at_ p.free, -1) := by
          unfold termF
          rw [if_neg hne, ht]
        refine (term_none W' B d tm p q hr' (by rw [hqo]; exact h1') ht).mono ?_
        rintro e w'' ⟨hone, hr2, ht2⟩
        obtain ⟨l, v', he, h1, h2, h3, h4⟩ := hone.gave
        refine ⟨l, v', he, h1, h2, h3, ht2.mono fun k _ hk => (hS k).2 (.inl hk), S, ?_, fun k hk => .inl hk, ?_⟩
        · show DevRep B w'' _ _ _ (.term (termF p q (bytes data)).1)
          rw [e1]
          exact ⟨d, tm, rfl, hr2, by omega, hS⟩
        · show All2 (RepA B w'') l [(q, (termF p q (bytes data)).2.1, (termF p q (bytes data)).2.2, [])]
          rw [e1]
          exact h4
      · rcases hk : p.chars with _ | ⟨k0, ks⟩
        · rw [ht, hk] at c1; simp at c1
        · have e1 : termF p q (bytes data) = (⟨ts, ks, max (max q.at_ p.free) t0⟩, max (max q.at_ p.free) t0, k0) := by
            unfold termF
            rw [if_neg hne, ht, hk]
          have hl1 : ts.length ≤ 100000 := by rw [ht] at c3; simp at c3; omega
          have hl2 : ks.length ≤ 100000 := by rw [ht, hk] at c1; simp at c1; omega
          refine (term_read W' B d tm p q hr' (by rw [hqo]; exact h1') t0 ts k0 ks ht hk (c2 k0 (by rw [hk]; simp)) hl1 hl2).mono ?_
          rintro e w'' ⟨hone, ⟨tm', hr2, hsw, hown⟩, ht2⟩
          obtain ⟨l, v', he, h1, h2, h3, h4⟩ := hone.gave
          refine ⟨l, v', he, h1, h2, h3, ht2.mono fun k _ hk => (hS k).2 (.inl hk), OwnT d tm', ?_, fun k hk => .inl ((hS k).2 (hown k hk)), ?_⟩
          · show DevRep B w'' _ _ _ (.term (termF p q (bytes data)).1)
            rw [e1]
            exact ⟨d, tm', rfl, hr2, by rw [hsw]; omega, fun k => Iff.rfl⟩
          · show All2 (RepA B w'') l [(q, (termF p q (bytes data)).2.1, (termF p q (bytes data)).2.2, [])]
            rw [e1]
            exact h4
  | line p =>
    obtain ⟨d, lm, hv, hr, hS⟩ := hD
    subst hv
    by_cases hlong : q.do_ = 2 ∧ 64 < (bytes data).length
    · have e1 : devF (.line p) q (bytes data) = (.line p, [(q, q.at_, -3, [])]) := by
        exact if_pos hlong
      refine (send_line w B b d m h dev at_ hdev hd pk do_ a_ b_ dv hat hat1 hdo hsent hdv S (fun w1 l => DevGave B w (.iface 125 (ptr d)) S (N + 1) (devF (.line p) q (bytes data)).1 (devF (.line p) q (bytes data)).2 w1 l) hSn hSb hSd hSr hrs fun W' hW' => ?_).mono fun e w' hh => hh
      rw [← hq, e1]
      have hr' : LRep B W' d lm p := hr.touch hW' hty
      refine (line_long W' B d q (Nat.le_trans hBw hW'.size) hlong.1 (by have := hlong.2; rw [hqd]; omega)).mono ?_
      rintro e w'' ⟨hone, hbel⟩
      obtain ⟨l, v', he, h1, h2, h3, h4⟩ := hone.gave
      exact ⟨l, v', he, h1, h2, h3, Touch.of_below hbel, S, ⟨d, lm, rfl, hr'.keep fun k hk _ => hbel.block k hk, hS⟩, fun k hk => .inl hk, h4⟩
    · have e1 : devF (.line p) q (bytes data) = (.line (lineF p q (bytes data)).1, (lineF p q (bytes data)).2) := by
        exact if_neg hlong
      have hdo2 : q.do_ = 1 ∨ q.do_ = 2 := by have h1 := hdo.1; have h2 := hdo.2; simp only [mostDo] at h2; rw [hqo]; omega
      have hcall : ∀ W', Touch w W' (· = b) → Calls Try.prog 100 #[ptr d, .agg (encQ q).toArray] W' fun e w' => ∃ v, e = .returned v ∧ Added B W' d lm W'.heap.size (lineF p q (bytes data)).1 (lineF p q (bytes data)).2 v w' := fun W' hW' =>
        line_send W' B d lm p q (bytes data) (hr.touch hW' hty) (hi.fitL hi2) (by rw [hqd]; exact hdat' W' hW') (fun h2 => by
          by_cases hl : 64 < (bytes data).length
          · exact absurd ⟨h2, hl⟩ hlong
          · omega) hdo2 (by rw [hqa]; exact ⟨hat0, hat1⟩)
      have hfew := lineF_few2 hi hi2 q (bytes data)
      by_cases h0 : (lineF p q (bytes data)).2 = []
      · refine (send_line0 w B b d m h dev at_ hdev hd pk do_ a_ b_ dv hat hat1 hdo hsent hdv S (fun w1 => DevGave B w (.iface 125 (ptr d)) S (N + 1) (devF (.line p) q (bytes data)).1 (devF (.line p) q (bytes data)).2 w1 []) hSn hSb hSd hSr hrs fun W' hW' => ?_).mono ?_
        · rw [← hq]
          refine (hcall W' hW').mono ?_
          rintro e w'' ⟨v', rfl, ⟨⟨m1, rs, hl, ho, hown⟩, ht⟩⟩
          have hr0 : rs.length = 0 := by rw [ho.ans.1, h0]; rfl
          obtain ⟨A, c, rfl⟩ := own_form ho.row
          rw [hr0]
          refine ⟨A, c, rfl, ht.mono fun k _ hk => (hS k).2 hk, OwnL d m1, ?_, fun k hk => (hown k hk).imp (hS k).2 fun hle => Nat.le_trans hW'.size hle, ?_⟩
          · rw [e1]; exact ⟨d, m1, rfl, hl, fun k => Iff.rfl⟩
          · rw [e1, h0]; exact All2.nil_
        · rintro e w' ⟨rfl, w1, m', hq1, hq2, hq3, hq4, hq5, hq6⟩
          exact ⟨rfl, [], w1, m', hq1, hq2, hq3, hq4, hq5, hq6⟩
      · have hpos : 0 < (lineF p q (bytes data)).2.length := List.length_pos_iff.2 h0
        refine (send_line w B b d m h dev at_ hdev hd pk do_ a_ b_ dv hat hat1 hdo hsent hdv S (fun w1 l => DevGave B w (.iface 125 (ptr d)) S (N + 1) (devF (.line p) q (bytes data)).1 (devF (.line p) q (bytes data)).2 w1 l) hSn hSb hSd hSr hrs fun W' hW' => ?_).mono fun e w' hh => hh
        rw [← hq]
        refine (hcall W' hW').mono ?_
        rintro e w'' ⟨v', rfl, ⟨⟨m1, rs, hl, ho, hown⟩, ht⟩⟩
        have hr0 : 0 < rs.length := by rw [ho.ans.1]; exact hpos
        refine ⟨rs, v', rfl, List.length_pos_iff.1 hr0, by rw [ho.ans.1]; exact hfew, Gave.of_own ho.row hr0, ht.mono fun k _ hk => (hS k).2 hk, OwnL d m1, ?_, fun k hk => (hown k hk).imp (hS k).2 fun hle => Nat.le_trans hW'.size hle, ?_⟩
        · rw [e1]; exact ⟨d, m1, rfl, hl, fun k => Iff.rfl⟩
        · rw [e1]; exact ho.ans
end Go.Proofs.Ytkdnkjjnmadhgaa.Dev
/-! A bus with any devices. -/
namespace Go.Proofs.Ytkdnkjjnmadhgaa.Dev
open Go.RowKit Go.Maps Go.Lib

/-- A reply with its device. -/
abbrev AnsD := Int × Ans
def ansG (a b : AnsD) : Bool := decide (a.2.2.1 < b.2.2.1 ∨ (a.2.2.1 = b.2.2.1 ∧ (a.1 < b.1 ∨ (a.1 = b.1 ∧ a.2.1.ord ≤ b.2.1.ord))))
def sortG (l : List AnsD) : List AnsD := l.mergeSort ansG
theorem sortG_perm (l : List AnsD) : (sortG l).Perm l := List.mergeSort_perm l ansG
theorem sortG_sorted (l : List AnsD) : (sortG l).Pairwise (fun a b => ansG a b = true) :=
  List.pairwise_mergeSort (fun a b c h1 h2 => by unfold ansG at *; rw [decide_eq_true_iff] at *; omega) (fun a b => by
    unfold ansG
    rw [Bool.or_eq_true, decide_eq_true_iff, decide_eq_true_iff]
    omega) l
/-- The one list that is sorted. -/
theorem ansG_one : ∀ {l m : List AnsD}, l.Perm m → l.Pairwise (fun a b => ansG a b = true) → m.Pairwise (fun a b => ansG a b = true) → (∀ a ∈ l, ∀ b ∈ l, a.2.1.ord = b.2.1.ord → a = b) → l = m
  | [], m, hp, _, _, _ => List.Perm.nil_eq hp
  | x :: l, [], hp, _, _, _ => by simp at hp
  | x :: l, y :: m, hp, hl, hm, hu => by
    have hxy : x = y := by
      by_cases e : x = y
      · exact e
      have hy : y ∈ l := by
        have : y ∈ x :: l := hp.mem_iff.2 (by simp)
        rcases List.mem_cons.1 this with h | h
        · exact absurd h.symm e
        · exact h
      have hx : x ∈ m := by
        have : x ∈ y :: m := hp.mem_iff.1 (by simp)
        rcases List.mem_cons.1 this with h | h
        · exact absurd h e
        · exact h
      have h1 := (List.pairwise_cons.1 hl).1 y hy
      have h2 := (List.pairwise_cons.1 hm).1 x hx
      unfold ansG at h1 h2
      rw [decide_eq_true_iff] at h1 h2
      exact hu x (by simp) y (by simp [hy]) (by omega)
    subst hxy
    rw [ansG_one ((List.perm_cons x).1 hp) (List.pairwise_cons.1 hl).2 (List.pairwise_cons.1 hm).2 fun a ha b hb => hu a (by simp [ha]) b (by simp [hb])]
/-- Replies that are sorted, others, and all sorted again. -/
theorem sortG_more {l new : List AnsD} (hu : ∀ a ∈ l ++ new, ∀ b ∈ l ++ new, a.2.1.ord = b.2.1.ord → a = b) : sortG (sortG l ++ new) = sortG (l ++ new) := by
  have hp : (sortG (sortG l ++ new)).Perm (l ++ new) := (sortG_perm _).trans ((sortG_perm l).append_right new)
  exact ansG_one (hp.trans (sortG_perm _).symm) (sortG_sorted _) (sortG_sorted _) fun a ha b hb => hu a (hp.mem_iff.1 ha) b (hp.mem_iff.1 hb)
/-- A reply of a bus in memory. -/
def RepG (B : Nat) (w : World) (r : Rp) (o : AnsD) : Prop := r.pk = o.2.1.pk ∧ r.at_ = o.2.2.1 ∧ r.res = o.2.2.2.1 ∧ r.dev = o.1 ∧ r.ord = o.2.1.ord ∧ Held B 5 w r.dv o.2.2.2.2
theorem repG_sorted {B : Nat} {w : World} {rs rs0 : List Rp} {l : List AnsD} (hp : rs.Perm rs0) (hs : rs.Pairwise (fun x y => ¬ RLt y x)) (ha : All2 (RepG B w) rs0 l) (hu : ∀ a ∈ l, ∀ b ∈ l, a.2.1.ord = b.2.1.ord → a = b) : All2 (RepG B w) rs (sortG l) := by
  obtain ⟨m, hm, pm⟩ := All2.perm hp.symm ha
  have hms : m.Pairwise (fun a b => ansG a b = true) := by
    rw [List.pairwise_iff_getElem] at hs ⊢
    intro i j hi hj hij
    have hlen := hm.1
    have h1 := hs i j (by omega) (by omega) hij
    have hx := hm.2 i _ _ (List.getElem?_eq_getElem (by omega)) (List.getElem?_eq_getElem hi)
    have hy := hm.2 j _ _ (List.getElem?_eq_getElem (by omega)) (List.getElem?_eq_getElem hj)
    unfold ansG
    rw [decide_eq_true_iff]
    unfold RLt at h1
    rw [hx.2.1, hy.2.1, hx.2.2.2.1, hy.2.2.2.1, hx.2.2.2.2.1, hy.2.2.2.2.1] at h1
    omega
  have e : m = sortG l := ansG_one (pm.symm.trans (sortG_perm l).symm) hms (sortG_sorted l) fun a h1 b h2 => hu a (pm.mem_iff.2 h1) b (pm.mem_iff.2 h2)
  rw [← e]
  exact hm
theorem RepG.keep {B : Nat} {w w' : World} {x : Rp} {o : AnsD} (h : RepG B w x o) (hk : ∀ k, k < w.heap.size → (k < B ∨ ∃ cur, w.heap[k]? = some (.cells cur 5 (0, 0))) → w'.heap[k]? = w.heap[k]?) : RepG B w' x o :=
  ⟨h.1, h.2.1, h.2.2.1, h.2.2.2.1, h.2.2.2.2.1, h.2.2.2.2.2.keep hk⟩

/-- A bus with any devices, N requests behind. -/
structure SysG (B : Nat) (w : World) (b : Nat) (bm : BM) (ds : List PDv) (Ss : List (Nat → Prop)) (N : Nat) : Prop where
  bus : BRep B w b bm
  len1 : bm.ds.length = ds.length
  len2 : Ss.length = ds.length
  dev : ∀ (i : Nat) v p S, bm.ds[i]? = some v → ds[i]? = some p → Ss[i]? = some S → DevRep B w v S N p
  apart : ∀ (i j : Nat) S S', i ≠ j → Ss[i]? = some S → Ss[j]? = some S' → ∀ k, S k → ¬ S' k
theorem SysG.get {B : Nat} {w : World} {b : Nat} {bm : BM} {ds : List PDv} {Ss : List (Nat → Prop)} {N : Nat} (h : SysG B w b bm ds Ss N) {i : Nat} (hi : i < ds.length) : ∃ v p S, bm.ds[i]? = some v ∧ ds[i]? = some p ∧ Ss[i]? = some S ∧ DevRep B w v S N p := by
  have h1 : i < bm.ds.length := by rw [h.len1]; exact hi
  have h2 : i < Ss.length := by rw [h.len2]; exact hi
  exact ⟨_, _, _, List.getElem?_eq_getElem h1, List.getElem?_eq_getElem hi, List.getElem?_eq_getElem h2, h.dev i _ _ _ (List.getElem?_eq_getElem h1) (List.getElem?_eq_getElem hi) (List.getElem?_eq_getElem h2)⟩
theorem SysG.keep46 {B : Nat} {w w' : World} {b : Nat} {bm : BM} {ds : List PDv} {Ss : List (Nat → Prop)} {N : Nat} (h : SysG B w b bm ds Ss N) (hk : ∀ k, k < w.heap.size → (k < B ∨ ∃ cur ty, w.heap[k]? = some (.cells cur ty (0, 0)) ∧ ty ≠ 46) → w'.heap[k]? = w.heap[k]?) : SysG B w' b bm ds Ss N := by
  refine ⟨h.bus.keep fun k hl ho => hk k hl ?_, h.len1, h.len2, fun i v p S h1 h2 h3 => (h.dev i v p S h1 h2 h3).keep fun k hl ho => hk k hl ?_, h.apart⟩
  · rcases ho with ho | ho | ho
    · obtain ⟨_, cur, ty, h2, h3⟩ := h.bus.tys (.inl ho)
      exact .inr ⟨cur, ty, h2, by rcases h3 with rfl | rfl <;> decide⟩
    · obtain ⟨_, cur, h2⟩ := own_block h.bus.rd ho
      exact .inr ⟨cur, _, h2, by decide⟩
    · obtain ⟨_, cur, ty, h2, h3⟩ := h.bus.tys (.inr ho)
      exact .inr ⟨cur, ty, h2, by rcases h3 with rfl | rfl <;> decide⟩
  · rcases ho with ho | ho | ⟨cur, ty, h4, h5⟩
    · obtain ⟨_, cur, ty, h4, h5⟩ := (h.dev i v p S h1 h2 h3).tys ho
      exact .inr ⟨cur, ty, h4, by rcases h5 with rfl | rfl | rfl | rfl | rfl | rfl <;> decide⟩
    · exact .inl ho
    · exact .inr ⟨cur, ty, h4, by rcases h5 with rfl | rfl <;> decide⟩
/-- A bus with any devices, without memory. -/
structure GB where
  ds : List PDv
  now : Int
  sent : Nat
  all : List AnsD
/-- It, in memory. -/
def GSt (w : World) (b : Nat) (g : GB) (wr : World) : Prop :=
  ∃ bm Ss, SysG w.heap.size wr b bm g.ds Ss g.sent ∧ bm.now = g.now ∧ bm.sent = g.sent ∧ bm.told = 0 ∧ All2 (RepG w.heap.size wr) bm.rs (sortG g.all) ∧ Below w.heap.size w wr
theorem GSt.keep {w : World} {b : Nat} {g : GB} {wr w' : World} (h : GSt w b g wr) (ht : Touch wr w' (fun k => w.heap.size ≤ k ∧ ∃ cur, wr.heap[k]? = some (.cells cur 46 (0, 0)))) : GSt w b g w' := by
  obtain ⟨bm, Ss, hs, h1, h2, h3, h4, hb⟩ := h
  have hk : ∀ k, k < wr.heap.size → (k < w.heap.size ∨ ∃ cur ty, wr.heap[k]? = some (.cells cur ty (0, 0)) ∧ ty ≠ 46) → w'.heap[k]? = wr.heap[k]? := fun k hl ho => ht.block k hl fun ⟨e1, cur, e2⟩ => by
    rcases ho with ho | ⟨cur', ty, ho, hty⟩
    · omega
    · rw [e2] at ho
      simp at ho
      exact hty ho.2.symm
  exact ⟨bm, Ss, hs.keep46 hk, h1, h2, h3, h4.mono fun x y hh => hh.keep fun k hl ho => hk k hl (ho.imp id fun ⟨cur, hc⟩ => ⟨cur, 5, hc, by decide⟩), hb.trans (ht.below hb.size fun k hk => hk.1)⟩
/-- A request is handed in. -/
def sendG (g : GB) (i : Nat) (p : PDv) (q : Rq) (data : List Value) : GB :=
  ⟨g.ds.set i (devF p q data).1, q.at_, g.sent + 1, g.all ++ (devF p q data).2.map fun o => ((i : Int) + 1, o)⟩
theorem gst_send (w : World) (b : Nat) (g : GB) (wr : World) (h : GSt w b g wr) (i : Nat) (p : PDv) (hp : g.ds[i]? = some p) (hi : PInv g.sent p) (hs100 : g.sent < 100) (at_ pk do_ a_ b_ : Int) (dv : Sl) (data : List Int) (hdat : Held w.heap.size 5 w dv (bytes data)) (hdl : data.length ≤ 4000)
    (hat : g.now ≤ at_) (hat0 : 0 ≤ at_) (hat1 : at_ ≤ 1000000000) (hdo : 1 ≤ do_ ∧ do_ ≤ mostDo p) (hall : g.all.length ≤ 100000)
    (hu : ∀ a ∈ g.all ++ (devF p ⟨pk, do_, a_, b_, dv, at_, g.sent⟩ (bytes data)).2.map (fun o => ((i : Int) + 1, o)), ∀ c ∈ g.all ++ (devF p ⟨pk, do_, a_, b_, dv, at_, g.sent⟩ (bytes data)).2.map (fun o => ((i : Int) + 1, o)), a.2.1.ord = c.2.1.ord → a = c) :
    Calls Try.prog 28 #[ptr b, .int .i64 ((i : Int) + 1), .int .i64 at_, .agg #[.int .i64 pk, .int .i64 do_, .int .i64 a_, .int .i64 b_, slv dv]] wr fun e w' => e = .returned (.int .i64 0) ∧ GSt w b (sendG g i p ⟨pk, do_, a_, b_, dv, at_, g.sent⟩ (bytes data)) w' ∧ Frame3 wr w' := by
  obtain ⟨bm, Ss, hs, h1, h2, h3, h4, hbl⟩ := h
  have hil : i < g.ds.length := (List.getElem?_eq_some_iff.1 hp).1
  obtain ⟨v, p', S, hv, hp', hS, hD⟩ := hs.get hil
  obtain rfl : p = p' := by rw [hp] at hp'; injection hp'
  have hd2 : Held w.heap.size 5 wr dv (bytes data) := hdat.below hbl
  have hrl : bm.rs.length = g.all.length := by rw [h4.1]; exact (sortG_perm _).length_eq
  have hq : (⟨pk, do_, a_, b_, dv, at_, bm.sent⟩ : Rq) = ⟨pk, do_, a_, b_, dv, at_, g.sent⟩ := by rw [h2]
  refine (dev_send wr w.heap.size b bm hs.bus ((i : Int) + 1) at_ (by omega) v (by rw [show ((i : Int) + 1 - 1).toNat = i by omega]; exact hv) p S g.sent g.sent hD hi (by omega) (by omega) pk do_ a_ b_ dv data hd2 hdl (by rw [h1]; exact hat) hat0 hat1 hdo (by omega) (by omega)).mono ?_
  rintro e w' ⟨rfl, l, w1, m', ⟨S', hD1, hS1, hrep⟩, ⟨c, hcb⟩, ht1, ht2, hbr, hH⟩
  rw [hq] at hD1 hrep
  have hSty := fun {k : Nat} (hk : S k) => hD.tys hk
  have hne : ∀ {k : Nat} {cur : Array Value} {ty : TypeId}, wr.heap[k]? = some (.cells cur ty (0, 0)) → (ty = 80 ∨ ty = 84 ∨ ty = 95 ∨ ty = 5 ∨ ty = 3 ∨ ty = 46 ∨ ty = 26) → ¬ S k := fun {k cur ty} hc ht hk => by
    obtain ⟨_, cur', ty', hc', ht'⟩ := hSty hk
    rw [hc] at hc'
    simp at hc'
    obtain ⟨_, rfl⟩ := hc'
    rcases ht with rfl | rfl | rfl | rfl | rfl | rfl | rfl <;> simp at ht'
  have hW1 : ∀ k, (k = b ∨ oblock (slv bm.vr) = some k) → w.heap.size ≤ k ∧ ∃ cur ty, w1.heap[k]? = some (.cells cur ty (0, 0)) ∧ (ty = 80 ∨ ty = 95) := fun k hk => by
    obtain ⟨e1, cur, ty, e2, e3⟩ := hs.bus.tys hk
    by_cases hkb : k = b
    · subst hkb
      exact ⟨e1, _, 80, hcb, .inl rfl⟩
    · refine ⟨e1, cur, ty, (ht1.block k (blt e2) fun e => ?_).trans e2, e3⟩
      rcases e with e | e
      · exact hne e2 (by rcases e3 with rfl | rfl <;> simp) e
      · exact hkb e
  have hstill1 : ∀ k, k < wr.heap.size → Still w.heap.size wr k → w1.heap[k]? = wr.heap[k]? := fun k hl ho => ht1.block k hl fun e => by
    rcases e with e | rfl
    · rcases ho with ho | ⟨cur, ty, hc, hty⟩
      · have := (hSty e).1; omega
      · exact hne hc (by rcases hty with rfl | rfl <;> simp) e
    · rcases ho with ho | ⟨cur, ty, hc, hty⟩
      · have := hs.bus.low; omega
      · rw [hs.bus.cells] at hc
        simp at hc
        obtain ⟨_, rfl⟩ := hc
        rcases hty with h | h <;> cases h
  have hfr : Frame3 wr w' := fun k cur ty hc ht => by
    have e1 : w1.heap[k]? = wr.heap[k]? := ht1.block k (blt hc) fun e => by
      rcases e with e | rfl
      · exact hne hc (by rcases ht with rfl | rfl | rfl <;> simp) e
      · rw [hs.bus.cells] at hc
        simp at hc
        obtain ⟨_, rfl⟩ := hc
        rcases ht with h | h | h <;> cases h
    refine (ht2.block k (blt (e1.trans hc)) fun e => ?_).trans e1
    obtain ⟨_, cur', ty', hc', ht'⟩ := hW1 k e
    rw [e1, hc] at hc'
    simp at hc'
    obtain ⟨_, rfl⟩ := hc'
    rcases ht with rfl | rfl | rfl <;> simp at ht'
  have hbw : Below w.heap.size w w' := by
    have b1 : Below w.heap.size wr w1 := ht1.below hbl.size fun k hk => by
      rcases hk with hk | rfl
      · exact (hSty hk).1
      · exact hs.bus.low
    have b2 := hbl.trans b1
    exact b2.trans (ht2.below b2.size fun k hk => (hW1 k hk).1)
  refine ⟨rfl, ⟨m', Ss.set i S', ⟨hbr, ?_, ?_, ?_, ?_⟩, hH.now, ?_, hH.told.trans h3, ?_, hbw⟩, hfr⟩
  · rw [hH.ds, hs.len1]; exact (List.length_set).symm
  · rw [List.length_set, hs.len2]; exact (List.length_set).symm
  · intro j v' p' T hj1 hj2 hj3
    rw [hH.ds] at hj1
    show DevRep _ _ _ _ (g.sent + 1) _
    by_cases hij : i = j
    · subst hij
      have e1 : v' = v := by rw [hv] at hj1; injection hj1 with hj1; exact hj1.symm
      have e2 : p' = (devF p ⟨pk, do_, a_, b_, dv, at_, g.sent⟩ (bytes data)).1 := by
        have hj2 : (g.ds.set i _)[i]? = some p' := hj2
        rw [List.getElem?_set_self hil] at hj2
        injection hj2 with hj2
        exact hj2.symm
      have e3 : T = S' := by
        rw [List.getElem?_set_self (by rw [hs.len2]; exact hil)] at hj3
        injection hj3 with hj3
        exact hj3.symm
      rw [e1, e2, e3]
      exact hD1.touch ht2 hW1
    · have hj2 : (g.ds.set i _)[j]? = some p' := hj2
      rw [List.getElem?_set_ne hij] at hj2 hj3
      have hDj := hs.dev j v' p' T hj1 hj2 hj3
      refine ((hDj.keep (w' := w1) fun k hl ho => ?_).touch ht2 hW1).more (Nat.le_succ _)
      rcases ho with ho | ho
      · refine ht1.block k hl fun e => ?_
        rcases e with e | rfl
        · exact hs.apart i j S T hij hS hj3 k e ho
        · obtain ⟨_, cur, ty, hc, hty⟩ := hDj.tys ho
          rw [hs.bus.cells] at hc
          simp at hc
          obtain ⟨_, rfl⟩ := hc
          rcases hty with h | h | h | h | h | h <;> cases h
      · exact hstill1 k hl ho
  · intro x y T T' hxy hx hy k hk hk'
    have hlt : ∀ {j : Nat} {U : Nat → Prop}, Ss[j]? = some U → U k → k < wr.heap.size := fun {j U} hj hU => by
      have hjl : j < g.ds.length := by rw [← hs.len2]; exact (List.getElem?_eq_some_iff.1 hj).1
      obtain ⟨v', p', U', _, _, hU', hD'⟩ := hs.get hjl
      obtain rfl : U = U' := by rw [hj] at hU'; injection hU'
      obtain ⟨_, cur, ty, hc, _⟩ := hD'.tys hU
      exact blt hc
    by_cases hix : i = x
    · subst hix
      rw [List.getElem?_set_self (by rw [hs.len2]; exact hil)] at hx
      rw [List.getElem?_set_ne hxy] at hy
      injection hx with hx
      subst hx
      rcases hS1 k hk with h | h
      · exact hs.apart i y S T' hxy hS hy k h hk'
      · have := hlt hy hk'; omega
    · rw [List.getElem?_set_ne hix] at hx
      by_cases hiy : i = y
      · subst hiy
        rw [List.getElem?_set_self (by rw [hs.len2]; exact hil)] at hy
        injection hy with hy
        subst hy
        rcases hS1 k hk' with h | h
        · exact hs.apart x i T S hxy hx hS k hk h
        · have := hlt hx hk; omega
      · rw [List.getElem?_set_ne hiy] at hy
        exact hs.apart x y T T' hxy hx hy k hk hk'
  · rw [hH.sent, h2]; show _ = ((g.sent + 1 : Nat) : Int); omega
  · obtain ⟨dk, e1, e2⟩ := hH.sorted
    obtain ⟨e3, e4⟩ := mg_list e2
    rw [← e1] at e3 e4
    have hstay : ∀ k, k < wr.heap.size → (k < w.heap.size ∨ ∃ cur, wr.heap[k]? = some (.cells cur 5 (0, 0))) → w'.heap[k]? = wr.heap[k]? := fun k hk ho => by
      rcases ho with ho | ⟨cur, ho⟩
      · exact (hbw.block k ho).trans (hbl.block k ho).symm
      · exact hfr k cur 5 ho (.inr (.inr rfl))
    have h5 : All2 (RepG w.heap.size w') bm.rs (sortG g.all) := h4.mono fun x y hh => hh.keep hstay
    have h6 : All2 (RepG w.heap.size w') (l.map (withDev ((i : Int) + 1))) ((devF p ⟨pk, do_, a_, b_, dv, at_, g.sent⟩ (bytes data)).2.map fun o => ((i : Int) + 1, o)) := by
      refine ⟨by simp [hrep.1], fun n x y hx hy => ?_⟩
      rw [List.getElem?_map] at hx hy
      cases hr : l[n]? with
      | none => rw [hr] at hx; cases hx
      | some r =>
        cases ho : (devF p ⟨pk, do_, a_, b_, dv, at_, g.sent⟩ (bytes data)).2[n]? with
        | none => rw [ho] at hy; cases hy
        | some o =>
          rw [hr] at hx
          rw [ho] at hy
          injection hx with hx
          injection hy with hy
          subst hx hy
          obtain ⟨r1, r2, r3, r4, r5, r6⟩ := hrep.2 n r o hr ho
          refine ⟨r1, r2, r3, rfl, r5, r6.touch5 ht2 fun k hk => ?_⟩
          obtain ⟨h7, cur, ty, h8, h9⟩ := hW1 k hk
          exact ⟨h7, cur, ty, h8, by rcases h9 with rfl | rfl <;> decide⟩
    have hu' : ∀ a ∈ sortG g.all ++ (devF p ⟨pk, do_, a_, b_, dv, at_, g.sent⟩ (bytes data)).2.map (fun o => ((i : Int) + 1, o)), ∀ c ∈ sortG g.all ++ (devF p ⟨pk, do_, a_, b_, dv, at_, g.sent⟩ (bytes data)).2.map (fun o => ((i : Int) + 1, o)), a.2.1.ord = c.2.1.ord → a = c := fun a ha c hc =>
      hu a (((sortG_perm _).append_right _).mem_iff.1 ha) c (((sortG_perm _).append_right _).mem_iff.1 hc)
    have h7 := repG_sorted e3 e4 (h5.append h6) hu'
    rw [sortG_more hu] at h7
    exact h7
end Go.Proofs.Ytkdnkjjnmadhgaa.Dev
