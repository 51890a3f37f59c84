import Derived.Deep.Quiet
import Derived.StillTail
import Derived.Tactics
import Derived.WalkKit
set_option linter.unusedVariables false
set_option linter.unusedSimpArgs false
/-! A region that draws its order: operations that only read may stand beside a chain of operations that write, make memory or call. One walk in the order of the text. -/
namespace Go.Mix
open Go

def FX : Exit → Act → World → Prop := fun _ _ _ => False

section
variable {P : Program} {ops : Array Oper} {md : Region.Mode} {C : World → Prop} {Ef : List Nat}

/-- In every world of the class the operation yields v, and leaves the world alone. -/
def steady (P : Program) (o : Oper) (a : Act) (C : World → Prop) (v : Value) : Prop := ∀ s : {x : World // C x}, (execOp a.eval o).run P s.1 = .ok (.value v) s.1

/-- The walk in the order of the text: the operations of Ef are the chain. -/
def wpMix (P : Program) (ops : Array Oper) (C : World → Prop) (Ef : List Nat) (Q : Act → World → Prop) : Nat → List Oper → Act → World → Prop
  | _, [], a, w => Q a w
  | k, o :: l, a, w =>
    if Ef.contains k = true then
      (if Region.wanted o (yielded ops a.tmps) = true then o.wp P a w (fun a' w' => (k + 1 = ops.size ∨ C w') ∧ wpMix P ops C Ef Q (k + 1) l a' w') FX else wpMix P ops C Ef Q (k + 1) l (a.put o.dst undef) w)
    else
      (if Region.wanted o (yielded ops a.tmps) = true then ∃ v, steady P o a C v ∧ wpMix P ops C Ef Q (k + 1) l (a.put o.dst v) w else wpMix P ops C Ef Q (k + 1) l (a.put o.dst undef) w)

def mOp (P : Program) (ops : Array Oper) (C : World → Prop) (Ef : List Nat) (i : Nat) (K : Act → World → Prop) (a : Act) (w : World) : Prop :=
  match ops[i]? with
  | none => K a w
  | some o =>
    if Ef.contains i = true then
      (if Region.wanted o (yielded ops a.tmps) = true then o.wp P a w (fun a' w' => (i + 1 = ops.size ∨ C w') ∧ K a' w') FX else K (a.put o.dst undef) w)
    else
      (if Region.wanted o (yielded ops a.tmps) = true then ∃ v, steady P o a C v ∧ K (a.put o.dst v) w else K (a.put o.dst undef) w)

def wpAnyM (P : Program) (md : Region.Mode) (ops : Array Oper) (C : World → Prop) (Ef : List Nat) (Q : Act → World → Prop) : Nat → Array Bool → Act → World → Prop
  | 0, listed, a, w => Region.ready md ops listed = [] ∧ Q a w
  | fuel + 1, listed, a, w =>
    (Region.ready md ops listed = [] → Q a w) ∧
    ∀ i ∈ Region.ready md ops listed, mOp P ops C Ef i (wpAnyM P md ops C Ef Q fuel (listed.setIfInBounds i true)) a w

theorem wp_exits {o : Oper} {a : Act} {w : World} {K : Act → World → Prop} {Q : Exit → Act → World → Prop} (h : o.wp P a w K FX) : o.wp P a w K Q := by
  unfold Oper.wp at *
  generalize (execOp a.eval o).run P w = r at *
  cases r with
  | ok n w' =>
    cases n <;> simp only [Oper.upon] at h ⊢
    case value => exact h
    case skip => exact h
    case defer => exact h
    case enter =>
      refine h.mono fun e w'' hh => ?_
      cases e with
      | returned v => exact hh
      | panicked c => exact hh.elim
      | outgrown => obtain ⟨_, _, hf⟩ := hh; exact hf.elim
    case row => exact h
  | halt x w' =>
    cases x <;> simp only [Oper.upon] at h ⊢
    exact h.elim

theorem wp_prop {o : Oper} {a : Act} {w : World} {ψ : Prop} (h : o.wp P a w (fun _ _ => ψ) FX) : ψ := by
  unfold Oper.wp at *
  generalize (execOp a.eval o).run P w = r at *
  cases r with
  | ok n w' =>
    cases n <;> simp only [Oper.upon] at h
    case value => exact h
    case skip => exact h
    case defer => exact h
    case enter =>
      obtain ⟨e, w'', fr, hR, _⟩ := h []
      cases e with
      | returned v => exact hR
      | panicked c => exact hR.elim
      | outgrown => obtain ⟨_, _, hf⟩ := hR; exact hf.elim
    case row =>
      obtain ⟨v, w'', hR, _⟩ := h default []
      exact hR
  | halt x w' =>
    cases x <;> simp only [Oper.upon] at h
    exact h.elim

theorem put_defers (a : Act) (d : Option Tmp) (v : Value) (x : Deferred) : ({ a.put d v with defers := x :: (a.put d v).defers } : Act) = ({ a with defers := x :: a.defers } : Act).put d v := by
  cases d <;> rfl

theorem wp_put {o : Oper} {a : Act} {d : Option Tmp} {v : Value} {w : World} {K K' : Act → World → Prop} (hex : execOp (a.put d v).eval o = execOp a.eval o)
    (hK : ∀ (b : Act) (u : Value) (w' : World), b.tmps = a.tmps → K ((b.put d v).put o.dst u) w' → K' (b.put o.dst u) w') (h : o.wp P (a.put d v) w K FX) : o.wp P a w K' FX := by
  unfold Oper.wp at *
  rw [hex] at h
  generalize (execOp a.eval o).run P w = r at *
  cases r with
  | ok n w' =>
    cases n <;> simp only [Oper.upon] at h ⊢
    case value => exact hK a _ _ rfl h
    case skip => exact hK a _ _ rfl h
    case defer => rw [put_defers] at h; exact hK _ _ _ rfl h
    case enter =>
      refine h.mono fun e w'' hh => ?_
      cases e with
      | returned v => exact hK a _ _ rfl hh
      | panicked c => exact hh
      | outgrown => exact hh
    case row => exact h.mono fun u w'' hh => hK a _ _ rfl hh
  | halt x w' =>
    cases x <;> simp only [Oper.upon] at h ⊢
    exact h

theorem wp_put' {o : Oper} {a : Act} {d : Option Tmp} {v : Value} {w : World} {K K' : Act → World → Prop} (hex : execOp (a.put d v).eval o = execOp a.eval o)
    (hK : ∀ (b : Act) (u : Value) (w' : World), b.tmps = a.tmps → K' (b.put o.dst u) w' → K ((b.put d v).put o.dst u) w') (h : o.wp P a w K' FX) : o.wp P (a.put d v) w K FX := by
  unfold Oper.wp at *
  rw [hex]
  generalize (execOp a.eval o).run P w = r at *
  cases r with
  | ok n w' =>
    cases n <;> simp only [Oper.upon] at h ⊢
    case value => exact hK a _ _ rfl h
    case skip => exact hK a _ _ rfl h
    case defer => rw [put_defers]; exact hK _ _ _ rfl h
    case enter =>
      refine h.mono fun e w'' hh => ?_
      cases e with
      | returned v => exact hK a _ _ rfl hh
      | panicked c => exact hh
      | outgrown => exact hh
    case row => exact h.mono fun u w'' hh => hK a _ _ rfl hh
  | halt x w' =>
    cases x <;> simp only [Oper.upon] at h ⊢
    exact h

theorem mOp_sound {i : Nat} {a : Act} {w : World} {K K' : Act → World → Prop} {Q' : Exit → Act → World → Prop} (hC : C w) (h : ∀ a' w', (i + 1 = ops.size ∧ Ef.contains i = true ∨ C w') → K a' w' → K' a' w') (hh : mOp P ops C Ef i K a w) : wpOp P ops Q' i K' a w := by
  unfold mOp at hh
  unfold wpOp
  split
  · rename_i ho; simp only [ho] at hh; exact h _ _ (.inr hC) hh
  · rename_i o ho
    simp only [ho] at hh
    by_cases he : Ef.contains i = true
    · rw [if_pos he] at hh
      split
      · rename_i hw
        rw [if_pos hw] at hh
        exact .inl (wp_exits (Oper.wp_mono (fun a' w' h1 => h a' w' (h1.1.imp (fun e => ⟨e, he⟩) id) h1.2) hh))
      · rename_i hw
        rw [if_neg hw] at hh
        exact h _ _ (.inr hC) hh
    · rw [if_neg he] at hh
      split
      · rename_i hw
        rw [if_pos hw] at hh
        obtain ⟨v, hs, hk⟩ := hh
        refine .inl ?_
        unfold Oper.wp
        rw [hs ⟨w, hC⟩]
        exact h _ _ (.inr hC) hk
      · rename_i hw
        rw [if_neg hw] at hh
        exact h _ _ (.inr hC) hh

/-- Operation j waits for operation i, straight or by others. -/
def dep (md : Region.Mode) (ops : Array Oper) : Nat → Nat → Nat → Bool
  | 0, _, _ => false
  | n + 1, j, i => match ops[j]? with
    | some oj => oj.after.any fun e => Region.binds md e && (e.on == i || dep md ops n e.on i)
    | none => false
theorem dep_spec {listed : Array Bool} {i : Nat} (hcl : ∀ k ok, ops[k]? = some ok → listed.getD k false = true → ∀ e ∈ ok.after, Region.binds md e = true → listed.getD e.on false = true) :
    ∀ (n j : Nat) (oj : Oper), ops[j]? = some oj → (∀ e ∈ oj.after, Region.binds md e = true → listed.getD e.on false = true) → dep md ops n j i = true → listed.getD i false = true
  | 0, _, _, _, _, h => by simp [dep] at h
  | n + 1, j, oj, hj, hall, h => by
    unfold dep at h
    simp only [hj] at h
    obtain ⟨e, he, hb⟩ := Array.any_eq_true'.1 h
    simp only [Bool.and_eq_true, Bool.or_eq_true, beq_iff_eq] at hb
    obtain ⟨hb, hc⟩ := hb
    have h1 := hall e he hb
    rcases hc with hc | hc
    · rw [← hc]; exact h1
    · cases hk : ops[e.on]? with
      | none => cases n <;> simp [dep, hk] at hc
      | some ok => exact dep_spec hcl n e.on ok hk (hcl _ ok hk h1) hc

theorem all_listed {listed : Array Bool} (h : ∀ k, k < ops.size → listed.getD k false = true) (hsz : listed.size = ops.size) : Region.ready md ops listed = [] := by
  unfold Region.ready
  rw [List.filter_eq_nil_iff]
  intro k hk
  have hk' : k < ops.size := by simpa using hk
  have h1 := h k hk'
  have h2 : listed.getD k true = true := by
    simp [hsz, hk'] at h1 ⊢
    exact h1
  simp [h2]

theorem wpAny_of_mix {Q : Act → World → Prop} {Q' : Exit → Act → World → Prop} (hfin : ∀ i, Ef.contains i = true → i + 1 = ops.size → ∀ k, k < i → dep md ops ops.size i k = true) (hQ : ∀ a w, Q a w → Q' .normal a w) : ∀ (fuel : Nat) (listed : Array Bool) (a : Act) (w : World),
    (∀ k ok, ops[k]? = some ok → listed.getD k false = true → ∀ e ∈ ok.after, Region.binds md e = true → listed.getD e.on false = true) → listed.size = ops.size → C w →
    wpAnyM P md ops C Ef Q fuel listed a w → wpAny P md ops Q' fuel listed a w
  | 0, _, _, _, _, _, _, h => ⟨h.1, hQ _ _ h.2⟩
  | fuel + 1, listed, a, w, hcl, hsz, hw, h => by
    refine ⟨fun h0 => hQ _ _ (h.1 h0), fun i hi => mOp_sound hw (fun a' w' hc hk => ?_) (h.2 i hi)⟩
    obtain ⟨hun, oi, hoi, hall⟩ := mem_ready.1 hi
    have his : i < ops.size := (Array.getElem?_eq_some_iff.1 hoi).1
    rcases hc with ⟨hlast, hei⟩ | hc
    · have hr : Region.ready md ops (listed.setIfInBounds i true) = [] := by
        refine all_listed (fun k hk => ?_) (by simpa using hsz)
        by_cases hki : i = k
        · subst hki; simp [hsz, his]
        · exact getD_set_true (dep_spec hcl ops.size i oi hoi hall (hfin i hei hlast k (by omega)))
      cases fuel with
      | zero => exact ⟨hr, hQ _ _ hk.2⟩
      | succ f => exact ⟨fun _ => hQ _ _ (hk.1 hr), fun j hj => by rw [hr] at hj; cases hj⟩
    · refine wpAny_of_mix hfin hQ fuel _ a' w' ?_ (by simpa using hsz) hc hk
      intro j oj hj hlj e he hb
      by_cases hkj : i = j
      · subst hkj
        obtain rfl : oj = oi := Option.some.inj (hj.symm.trans hoi)
        exact getD_set_true (hall e he hb)
      · rw [getD_set_ne false hkj] at hlj
        exact getD_set_true (hcl j oj hj hlj e he hb)

/-- What an operation that only reads yields. -/
def Yld (P : Program) (ops : Array Oper) (C : World → Prop) (o : Oper) (v : Value) (a : Act) : Prop :=
  (Region.wanted o (yielded ops a.tmps) = true ∧ steady P o a C v) ∨ (Region.wanted o (yielded ops a.tmps) = false ∧ v = undef)

theorem eval_tmps {a b : Act} (h : b.tmps = a.tmps) : b.eval = a.eval := by
  funext x
  cases x <;> simp [Act.eval, h]

theorem Yld.same {o : Oper} {v : Value} {a b : Act} (hy : Yld P ops C o v a) (he : execOp b.eval o = execOp a.eval o) (hw : Region.wanted o (yielded ops b.tmps) = Region.wanted o (yielded ops a.tmps)) : Yld P ops C o v b := by
  unfold Yld steady at *
  rw [he, hw]
  exact hy

theorem Yld.uniq {o : Oper} {v u : Value} {a : Act} (hC : ∃ w, C w) (h : Yld P ops C o v a) (k : Yld P ops C o u a) : v = u := by
  obtain ⟨w, hw⟩ := hC
  rcases h with ⟨h1, h2⟩ | ⟨h1, h2⟩ <;> rcases k with ⟨k1, k2⟩ | ⟨k1, k2⟩
  · have := (h2 ⟨w, hw⟩).symm.trans (k2 ⟨w, hw⟩)
    simpa using this
  · rw [h1] at k1; cases k1
  · rw [h1] at k1; cases k1
  · rw [h2, k2]

theorem mOp_still {i : Nat} {o : Oper} {a : Act} {w : World} {K : Act → World → Prop} (hi : ops[i]? = some o) (he : Ef.contains i = false) : mOp P ops C Ef i K a w ↔ ∃ v, Yld P ops C o v a ∧ K (a.put o.dst v) w := by
  unfold mOp
  simp only [hi, he, Bool.false_eq_true, if_false]
  by_cases hw : Region.wanted o (yielded ops a.tmps) = true
  · rw [if_pos hw]
    constructor
    · rintro ⟨v, h1, h2⟩
      exact ⟨v, .inl ⟨hw, h1⟩, h2⟩
    · rintro ⟨v, h1 | h1, h2⟩
      · exact ⟨v, h1.2, h2⟩
      · rw [hw] at h1; cases h1.1
  · rw [if_neg hw]
    constructor
    · intro h
      exact ⟨undef, .inr ⟨by simpa using hw, rfl⟩, h⟩
    · rintro ⟨v, h1 | h1, h2⟩
      · exact absurd h1.1 hw
      · rw [h1.2] at h2; exact h2

theorem mOp_mono {i : Nat} {a : Act} {w : World} {K K' : Act → World → Prop} (h : ∀ a w, K a w → K' a w) (hh : mOp P ops C Ef i K a w) : mOp P ops C Ef i K' a w := by
  unfold mOp at *
  split
  · rename_i ho; simp only [ho] at hh; exact h _ _ hh
  · rename_i o ho
    simp only [ho] at hh
    split
    · rename_i he
      rw [if_pos he] at hh
      split
      · rename_i hw; rw [if_pos hw] at hh; exact Oper.wp_mono (fun a' w' h1 => ⟨h1.1, h _ _ h1.2⟩) hh
      · rename_i hw; rw [if_neg hw] at hh; exact h _ _ hh
    · rename_i he
      rw [if_neg he] at hh
      split
      · rename_i hw; rw [if_pos hw] at hh; obtain ⟨v, h1, h2⟩ := hh; exact ⟨v, h1, h _ _ h2⟩
      · rename_i hw; rw [if_neg hw] at hh; exact h _ _ hh

/-- A reading operation i, apart from j: j, with i's value laid in before or behind. -/
theorem mOp_put {j : Nat} {oi oj : Oper} {v : Value} (hj : ops[j]? = some oj) (hap : oi.apart ops oj = true) (hsi : ∀ cs b, oi.op ≠ .select cs b) (hsj : ∀ cs b, oj.op ≠ .select cs b) {K : Act → World → Prop} {a : Act} {w : World}
    (hy : Yld P ops C oi v a) (h : mOp P ops C Ef j K (a.put oi.dst v) w) : mOp P ops C Ef j (fun a' w' => Yld P ops C oi v a' ∧ K (a'.put oi.dst v) w') a w := by
  obtain ⟨h1, h2, h3⟩ := Oper.apart_spec hap
  have keep : ∀ (b : Act) u, b.tmps = a.tmps → Yld P ops C oi v (b.put oj.dst u) := fun b u hb =>
    hy.same ((execOp_put oi hsi b oj.dst u h3).trans (by rw [eval_tmps hb])) ((wanted_put oi b oj.dst u h3).trans (by rw [hb]))
  unfold mOp at *
  simp only [hj] at *
  rw [wanted_put oj a oi.dst v h1] at h
  split
  · rename_i he
    rw [if_pos he] at h
    split
    · rename_i hw
      rw [if_pos hw] at h
      refine wp_put (execOp_put oj hsj a oi.dst v h1) (fun b u w' hb hk => ⟨hk.1, keep b u hb, ?_⟩) h
      rw [← Act.put_comm b v u h2]
      exact hk.2
    · rename_i hw
      rw [if_neg hw] at h
      exact ⟨keep a _ rfl, by rw [← Act.put_comm a v undef h2]; exact h⟩
  · rename_i he
    rw [if_neg he] at h
    split
    · rename_i hw
      rw [if_pos hw] at h
      obtain ⟨u, hu, hn⟩ := h
      refine ⟨u, fun s => ?_, keep a u rfl, by rw [← Act.put_comm a v u h2]; exact hn⟩
      have := hu s
      rwa [execOp_put oj hsj a oi.dst v h1] at this
    · rename_i hw
      rw [if_neg hw] at h
      exact ⟨keep a _ rfl, by rw [← Act.put_comm a v undef h2]; exact h⟩

theorem first_still {Q : Act → World → Prop} {i : Nat} {oi : Oper} {v : Value} (hi : ops[i]? = some oi) (hei : Ef.contains i = false) (hsel : ∀ (j : Nat) (o : Oper) cs b, ops[j]? = some o → o.op ≠ .select cs b) :
    ∀ (fuel : Nat) (listed : Array Bool) (a : Act) (w : World),
      (∀ j oj, ops[j]? = some oj → j ≠ i → listed.getD j true = false → (∀ e ∈ oj.after, Region.binds md e = true → e.on ≠ i) → oi.apart ops oj = true) →
      i ∈ Region.ready md ops listed → Yld P ops C oi v a →
      wpAnyM P md ops C Ef Q fuel (listed.setIfInBounds i true) (a.put oi.dst v) w → wpAnyM P md ops C Ef Q (fuel + 1) listed a w := by
  intro fuel
  induction fuel with
  | zero =>
    intro listed a w _ hr hy H
    refine ⟨fun h => (by rw [h] at hr; cases hr), fun j hj => ?_⟩
    by_cases hji : j = i
    · subst hji; exact (mOp_still hi hei).2 ⟨v, hy, H⟩
    · have := ready_mono hj hji
      rw [H.1] at this
      cases this
  | succ fuel ih =>
    intro listed a w hfree hr hy H
    refine ⟨fun h => (by rw [h] at hr; cases hr), fun j hj => ?_⟩
    by_cases hji : j = i
    · subst hji; exact (mOp_still hi hei).2 ⟨v, hy, H⟩
    · have h1 := H.2 j (ready_mono hj hji)
      obtain ⟨hjun, oj, hoj, hall⟩ := mem_ready.1 hj
      have hnot : ∀ e ∈ oj.after, Region.binds md e = true → e.on ≠ i := fun e he hb heq => by
        have h1 := hall e he hb
        have h0 := (mem_ready.1 hr).1
        rw [heq] at h1
        rw [getD_both h0] at h1
        cases h1
      have h2 := mOp_put hoj (hfree j oj hoj hji hjun hnot) (fun cs b => hsel i oi cs b hi) (fun cs b => hsel j oj cs b hoj) hy h1
      have hfree' : ∀ k ok, ops[k]? = some ok → k ≠ i → (listed.setIfInBounds j true).getD k true = false →
          (∀ e ∈ ok.after, Region.binds md e = true → e.on ≠ i) → oi.apart ops ok = true := fun k ok hk hki hun hno => by
        refine hfree k ok hk hki ?_ hno
        by_cases hjk : j = k
        · subst hjk; exact hjun
        · rw [getD_set_ne true hjk] at hun; exact hun
      refine mOp_mono (fun a' w' h3 => ih (listed.setIfInBounds j true) a' w' hfree' (ready_mono hr (Ne.symm hji)) h3.1 ?_) h2
      rw [Array.setIfInBounds_comm _ _ hji]
      exact h3.2

/-- An operation of the chain that stands first may be taken first: what else may come up only reads. -/
theorem first_eff {Q : Act → World → Prop} {i : Nat} {oi : Oper} (hCn : ∃ w, C w) (hi : ops[i]? = some oi) (hei : Ef.contains i = true) (hsel : ∀ (j : Nat) (o : Oper) cs b, ops[j]? = some o → o.op ≠ .select cs b) :
    ∀ (fuel : Nat) (listed : Array Bool) (a : Act) (w : World),
      (∀ j oj, ops[j]? = some oj → j ≠ i → listed.getD j true = false → (∀ e ∈ oj.after, Region.binds md e = true → e.on ≠ i) → oi.apart ops oj = true) →
      (∀ listed' : Array Bool, (∀ k, listed.getD k false = true → listed'.getD k false = true) → listed'.getD i true = false → (∀ k ok, ops[k]? = some ok → listed'.getD k false = true → listed.getD k false = true ∨ Ef.contains k = false) → (∀ k ok, ops[k]? = some ok → listed'.getD k false = true → ∀ e ∈ ok.after, Region.binds md e = true → listed'.getD e.on false = true) → ∀ j ∈ Region.ready md ops listed', j ≠ i → Ef.contains j = false) →
      (∀ k ok, ops[k]? = some ok → listed.getD k false = true → ∀ e ∈ ok.after, Region.binds md e = true → listed.getD e.on false = true) →
      i ∈ Region.ready md ops listed →
      mOp P ops C Ef i (wpAnyM P md ops C Ef Q fuel (listed.setIfInBounds i true)) a w → wpAnyM P md ops C Ef Q (fuel + 1) listed a w := by
  intro fuel
  induction fuel with
  | zero =>
    intro listed a w _ hq hcl hr H
    refine ⟨fun h => (by rw [h] at hr; cases hr), fun j hj => ?_⟩
    by_cases hji : j = i
    · subst hji; exact H
    · -- nothing may come up behind i; but j would
      exfalso
      have hrm := ready_mono hj hji
      have key : Region.ready md ops (listed.setIfInBounds i true) = [] := by
        unfold mOp at H
        simp only [hi, hei, if_true] at H
        by_cases hw : Region.wanted oi (yielded ops a.tmps) = true
        · rw [if_pos hw] at H
          exact wp_prop (Oper.wp_mono (fun a' w' h => h.2.1) H)
        · rw [if_neg hw] at H
          exact H.1
      rw [key] at hrm
      cases hrm
  | succ fuel ih =>
    intro listed a w hfree hq hcl hr H
    refine ⟨fun h => (by rw [h] at hr; cases hr), fun j hj => ?_⟩
    by_cases hji : j = i
    · subst hji; exact H
    · obtain ⟨hiun, _⟩ := mem_ready.1 hr
      have hej : Ef.contains j = false := hq listed (fun _ h => h) hiun (fun k ok _ h => .inl h) hcl j hj hji
      obtain ⟨hjun, oj, hoj, hall⟩ := mem_ready.1 hj
      have hnot : ∀ e ∈ oj.after, Region.binds md e = true → e.on ≠ i := fun e he hb heq => by
        have h1 := hall e he hb
        rw [heq, getD_both hiun] at h1
        cases h1
      have hap := hfree j oj hoj hji hjun hnot
      obtain ⟨h1, h2, h3⟩ := Oper.apart_spec hap
      have hsi : ∀ cs b, oi.op ≠ .select cs b := fun cs b => hsel i oi cs b hi
      have hsj : ∀ cs b, oj.op ≠ .select cs b := fun cs b => hsel j oj cs b hoj
      -- j's value, off what comes behind i
      have back : ∀ (b : Act) u v, b.tmps = a.tmps → Yld P ops C oj v (b.put oi.dst u) → Yld P ops C oj v a := fun b u v hb hy =>
        hy.same (((execOp_put oj hsj b oi.dst u h1).trans (by rw [eval_tmps hb])).symm) (((wanted_put oj b oi.dst u h1).trans (by rw [hb])).symm)
      have hjr := ready_mono hj hji
      have hiw : Region.wanted oi (yielded ops a.tmps) = true ∨ Region.wanted oi (yielded ops a.tmps) = false := by cases Region.wanted oi (yielded ops a.tmps) <;> simp
      have hY : ∃ v, Yld P ops C oj v a := by
        unfold mOp at H
        simp only [hi, hei, if_true] at H
        by_cases hw : Region.wanted oi (yielded ops a.tmps) = true
        · rw [if_pos hw] at H
          refine wp_prop (P := P) (o := oi) (a := a) (w := w) ?_
          have e0 : a.put none undef = a := rfl
          refine wp_put (d := none) (v := undef) (by rw [e0]) (fun b u w' hb hk => ?_) (by rw [e0]; exact H)
          have h5 := (mOp_still hoj hej).1 (hk.2.2 j hjr)
          obtain ⟨v, hy, _⟩ := h5
          exact ⟨v, back b u v hb hy⟩
        · rw [if_neg hw] at H
          obtain ⟨v, hy, _⟩ := (mOp_still hoj hej).1 (H.2 j hjr)
          exact ⟨v, back a undef v rfl hy⟩
      obtain ⟨v, hy⟩ := hY
      refine (mOp_still hoj hej).2 ⟨v, hy, ?_⟩
      have hfree' : ∀ k ok, ops[k]? = some ok → k ≠ i → (listed.setIfInBounds j true).getD k true = false →
          (∀ e ∈ ok.after, Region.binds md e = true → e.on ≠ i) → oi.apart ops ok = true := fun k ok hk hki hun hno => by
        refine hfree k ok hk hki ?_ hno
        by_cases hjk : j = k
        · subst hjk; exact hjun
        · rw [getD_set_ne true hjk] at hun; exact hun
      have hq' : ∀ listed' : Array Bool, (∀ k, (listed.setIfInBounds j true).getD k false = true → listed'.getD k false = true) → listed'.getD i true = false → (∀ k ok, ops[k]? = some ok → listed'.getD k false = true → (listed.setIfInBounds j true).getD k false = true ∨ Ef.contains k = false) → (∀ k ok, ops[k]? = some ok → listed'.getD k false = true → ∀ e ∈ ok.after, Region.binds md e = true → listed'.getD e.on false = true) → ∀ m ∈ Region.ready md ops listed', m ≠ i → Ef.contains m = false := by
        intro listed' hl hin hk hc
        refine hq listed' (fun k h => hl k (getD_set_true h)) hin (fun k ok hok h => ?_) hc
        rcases hk k ok hok h with h | h
        · by_cases hjk : j = k
          · subst hjk; exact .inr hej
          · rw [getD_set_ne false hjk] at h; exact .inl h
        · exact .inr h
      have hcl' : ∀ k ok, ops[k]? = some ok → (listed.setIfInBounds j true).getD k false = true → ∀ e ∈ ok.after, Region.binds md e = true → (listed.setIfInBounds j true).getD e.on false = true := by
        intro k ok hok hlk e he hb
        by_cases hjk : j = k
        · subst hjk
          obtain rfl : ok = oj := Option.some.inj (hok.symm.trans hoj)
          exact getD_set_true (hall e he hb)
        · rw [getD_set_ne false hjk] at hlk
          exact getD_set_true (hcl k ok hok hlk e he hb)
      refine ih (listed.setIfInBounds j true) (a.put oj.dst v) w hfree' hq' hcl' (ready_mono hr (Ne.symm hji)) ?_
      -- i, behind j
      have hwi : Region.wanted oi (yielded ops (a.put oj.dst v).tmps) = Region.wanted oi (yielded ops a.tmps) := wanted_put oi a oj.dst v h3
      have h2' : ∀ d, oj.dst = some d → oi.dst ≠ some d := fun d hd hd' => h2 d hd' hd
      unfold mOp at H ⊢
      simp only [hi, hei, if_true] at H ⊢
      rw [hwi]
      have conv : ∀ (b : Act) u w', b.tmps = a.tmps → wpAnyM P md ops C Ef Q (fuel + 1) (listed.setIfInBounds i true) (b.put oi.dst u) w' → wpAnyM P md ops C Ef Q fuel ((listed.setIfInBounds j true).setIfInBounds i true) ((b.put oj.dst v).put oi.dst u) w' := by
        intro b u w' hb hk
        obtain ⟨v', hy', hk'⟩ := (mOp_still hoj hej).1 (hk.2 j hjr)
        obtain rfl : v' = v := Yld.uniq hCn (back b u v' hb hy') hy
        rw [Array.setIfInBounds_comm _ _ hji, Act.put_comm b v' u h2']
        exact hk'
      split
      · rename_i hw
        rw [if_pos hw] at H
        exact wp_put' (execOp_put oi hsi a oj.dst v h3) (fun b u w' hb hk => ⟨hk.1, conv b u w' hb hk.2⟩) H
      · rename_i hw
        rw [if_neg hw] at H
        exact conv a undef w rfl H

def chainB (md : Region.Mode) (ops : Array Oper) (Ef : List Nat) : Bool := Ef.all fun j => Ef.all fun i => decide (j ≤ i) || dep md ops ops.size j i
/-- Where the last operation is of the chain, it waits for all others. -/
def finB (md : Region.Mode) (ops : Array Oper) (Ef : List Nat) : Bool := !Ef.contains (ops.size - 1) || (List.range (ops.size - 1)).all fun k => dep md ops ops.size (ops.size - 1) k
theorem finB_spec (h : finB md ops Ef = true) : ∀ i, Ef.contains i = true → i + 1 = ops.size → ∀ k, k < i → dep md ops ops.size i k = true := by
  intro i hi he k hk
  unfold finB at h
  obtain rfl : i = ops.size - 1 := by omega
  simp only [Bool.or_eq_true, Bool.not_eq_true', hi, Bool.true_eq_false, false_or] at h
  rw [List.all_eq_true] at h
  exact h k (by simpa using hk)

theorem wpAnyM_lex {Q : Act → World → Prop} (hCn : ∃ w, C w) (hs : Region.noSelect ops = true) (hch : chainB md ops Ef = true) : ∀ (l : List Oper) (k : Nat) (listed : Array Bool) (a : Act) (w : World), (∀ j, l[j]? = ops[k + j]?) →
    (∀ m, m < k → listed.getD m false = true) → (∀ k ok, ops[k]? = some ok → listed.getD k false = true → ∀ e ∈ ok.after, Region.binds md e = true → listed.getD e.on false = true) → listed.size = ops.size →
    Region.lexFrom md ops l.length k listed = true → wpMix P ops C Ef Q k l a w → wpAnyM P md ops C Ef Q l.length listed a w
  | [], _, _, _, _, _, _, _, _, hB, h => ⟨by simpa [Region.lexFrom] using hB, h⟩
  | o :: l, k, listed, a, w, hl, hpre, hcl, hsz, hB, h => by
    have h0 : ops[k]? = some o := by simpa using (hl 0).symm
    have hks : k < ops.size := (Array.getElem?_eq_some_iff.1 h0).1
    simp only [List.length_cons, Region.lexFrom, Bool.and_eq_true] at hB
    obtain ⟨⟨hr, hf⟩, hB'⟩ := hB
    have hr' : k ∈ Region.ready md ops listed := by simpa using hr
    obtain ⟨hun, ok0, hok0, hall⟩ := mem_ready.1 hr'
    obtain rfl : ok0 = o := Option.some.inj (hok0.symm.trans h0)
    have hpre' : ∀ m, m < k + 1 → (listed.setIfInBounds k true).getD m false = true := by
      intro m hm
      by_cases hmk : k = m
      · subst hmk; simp [hsz, hks]
      · exact getD_set_true (hpre m (by omega))
    have hcl' : ∀ j oj, ops[j]? = some oj → (listed.setIfInBounds k true).getD j false = true → ∀ e ∈ oj.after, Region.binds md e = true → (listed.setIfInBounds k true).getD e.on false = true := by
      intro j oj hj hlj e he hb
      by_cases hkj : k = j
      · subst hkj
        obtain rfl : oj = ok0 := Option.some.inj (hj.symm.trans h0)
        exact getD_set_true (hall e he hb)
      · rw [getD_set_ne false hkj] at hlj
        exact getD_set_true (hcl j oj hj hlj e he hb)
    have IH := fun a' w' => wpAnyM_lex (Q := Q) hCn hs hch l (k + 1) (listed.setIfInBounds k true) a' w' (fun j => by have := hl (j + 1); simpa [Nat.add_assoc, Nat.add_comm 1 j] using this) hpre' hcl' (by simpa using hsz) hB'
    have hfr := fun j oj (hj : ops[j]? = some oj) (hne : j ≠ k) (hu : listed.getD j true = false) (hno : ∀ e ∈ oj.after, Region.binds md e = true → e.on ≠ k) => Region.free_spec h0 hf j oj hj hne hu hno
    have hmo : mOp P ops C Ef k (wpMix P ops C Ef Q (k + 1) l) a w := by
      unfold mOp
      simp only [h0]
      exact h
    by_cases he : Ef.contains k = true
    · refine first_eff hCn h0 he (Region.noSelect_spec hs) l.length listed a w hfr ?_ hcl hr' (mOp_mono (fun a' w' hh => IH a' w' hh) hmo)
      intro listed' hl1 hin _ hc j hj hjk
      cases hej : Ef.contains j with
      | false => rfl
      | true =>
        exfalso
        obtain ⟨hju, oj, hoj, hallj⟩ := mem_ready.1 hj
        rcases Nat.lt_or_ge j k with hlt | hge
        · have := hl1 j (hpre j hlt)
          rw [getD_both hju] at this
          cases this
        · have hd : dep md ops ops.size j k = true := by
            unfold chainB at hch
            rw [List.all_eq_true] at hch
            have h1 := hch j (by simpa using hej)
            rw [List.all_eq_true] at h1
            have h2 := h1 k (by simpa using he)
            simp only [Bool.or_eq_true, decide_eq_true_eq] at h2
            rcases h2 with h2 | h2
            · omega
            · exact h2
          have := dep_spec hc ops.size j oj hoj hallj hd
          rw [getD_both hin] at this
          cases this
    · have he' : Ef.contains k = false := by simpa using he
      obtain ⟨v, hy, hk⟩ := (mOp_still h0 he').1 hmo
      exact first_still h0 he' (Region.noSelect_spec hs) l.length listed a w hfr hr' hy (IH _ _ hk)

theorem wp_region_mix {id : Nat} {Q : Exit → Act → World → Prop} {a : Act} {w : World} {l : List Oper} (C : World → Prop) (Ef : List Nat) (hm : P.follows .mixedOrders = true)
    (hB : (Region.lexB .any l.toArray && (chainB .any l.toArray Ef && finB .any l.toArray Ef)) = true) (hC : C w.drew)
    (h : wpMix P l.toArray C Ef (fun a' w' => Q .normal a' w') 0 l a w.drew) : (Code.region id l.toArray true).wp P Q a w := by
  simp only [Region.lexB, Bool.and_eq_true] at hB
  refine wp_region_any hm (wpAny_of_mix (C := C) (Ef := Ef) (Q := fun a' w' => Q .normal a' w') (finB_spec hB.2.2) (fun _ _ h => h) _ _ _ _ (by intro k ok _ hk; rw [getD_replicate_false] at hk; cases hk) (by simp) hC ?_)
  have := wpAnyM_lex (P := P) (C := C) (Ef := Ef) (md := .any) (Q := fun a' w' => Q .normal a' w') ⟨_, hC⟩ hB.1.1 hB.2.1 l 0 (Array.replicate l.toArray.size false) a w.drew (by simp) (by intro m hm; omega)
    (by intro k ok _ hk; rw [getD_replicate_false] at hk; cases hk) (by simp) (by simpa using hB.1.2) h
  simpa using this

theorem mix_nil {Q : Act → World → Prop} {k : Nat} {a : Act} {w : World} (h : Q a w) : wpMix P ops C Ef Q k [] a w := h
theorem mix_still {Q : Act → World → Prop} {k : Nat} {o : Oper} {l : List Oper} {a : Act} {w : World} (hk : Ef.contains k = false)
    (h : ∀ K : Act → Prop, (∀ a, wpMix P ops C Ef Q (k + 1) l a w → K a) → if Region.wanted o (yielded ops a.tmps) = true then ∃ v, (∀ s : {x : World // C x}, (execOp a.eval o).run P s.1 = .ok (.value v) s.1) ∧ K (a.put o.dst v) else K (a.put o.dst undef)) :
    wpMix P ops C Ef Q k (o :: l) a w := by
  have := h _ (fun _ h => h)
  unfold wpMix
  simp only [hk, Bool.false_eq_true, if_false]
  exact this
theorem mix_eff {Q : Act → World → Prop} {k : Nat} {o : Oper} {l : List Oper} {a : Act} {w : World} (hk : Ef.contains k = true)
    (h : wpList P ops (fun e a' w' => e = .normal ∧ (k + 1 = ops.size ∨ C w') ∧ wpMix P ops C Ef Q (k + 1) l a' w') [o] a w) : wpMix P ops C Ef Q k (o :: l) a w := by
  unfold wpMix
  simp only [hk, if_true]
  unfold wpList at h
  have hout : ¬ LetsOut (fun e a' w' => e = Exit.normal ∧ (k + 1 = ops.size ∨ C w') ∧ wpMix P ops C Ef Q (k + 1) l a' w') := by
    rintro ⟨_, _, h, _⟩
    cases h
  split
  · rename_i hw
    rw [if_pos hw] at h
    rcases h with h | ⟨_, h⟩
    · unfold Oper.wp at *
      generalize (execOp a.eval o).run P w = r at *
      cases r with
      | ok n w' =>
        cases n <;> simp only [Oper.upon, wpList] at h ⊢
        case value => exact h.2
        case skip => exact h.2
        case defer => exact h.2
        case enter =>
          refine h.mono fun e w'' hh => ?_
          cases e with
          | returned v => exact hh.2
          | panicked c => cases hh.1
          | outgrown => exact (hout hh).elim
        case row => exact h.mono fun v w'' hh => hh.2
      | halt x w' =>
        cases x <;> simp only [Oper.upon] at h
        cases h.1
    · exact (hout h).elim
  · rename_i hw
    rw [if_neg hw] at h
    exact h.2.2
end
end Go.Mix
