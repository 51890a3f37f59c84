import Derived.Test.YtkmgbnklfnjfjaaKR
/-! Maps from whole numbers to any values. Contract: calls. -/
namespace Go.Proofs.Ytkmgbnklfnjfjaa.Ker
open Go.RowKit Go.Maps
open Go.ChangeMaps (setBlock)

def mapF (w : World) (b : Nat) (kvs : List (Int × Value)) : Prop :=
  ∃ es clock, w.heap[b]? = some (.map es clock) ∧ es.toList.map (fun e => (e.key, e.val)) = kvs.map fun p => (.int .i64 p.1, p.2)
def lookF (kvs : List (Int × Value)) (k : Int) : Option Value := (kvs.find? (fun p => p.1 == k)).map (·.2)
theorem findNow_ofF (k : Int) : ∀ (es : List MapEntry) (kvs : List (Int × Value)) (i : Nat), es.map (fun e => (e.key, e.val)) = kvs.map (fun p => (.int .i64 p.1, p.2)) →
    ∃ r, Instr.findNow (.int .i64) (.int .i64 k) es i = some r ∧ (r.map (·.2)) = lookF kvs k
  | [], kvs, i, h => by
    have : kvs = [] := by simpa using h.symm
    subst this
    exact ⟨none, rfl, rfl⟩
  | e :: es, [], i, h => by simp at h
  | e :: es, p :: kvs, i, h => by
    simp only [List.map_cons, List.cons.injEq] at h
    obtain ⟨he, ht⟩ := h
    have hk : e.key = .int .i64 p.1 := congrArg Prod.fst he
    have hv : e.val = p.2 := congrArg Prod.snd he
    by_cases hkp : k = p.1
    · subst hkp
      refine ⟨some (i, e.val), ?_, ?_⟩
      · simp [Instr.findNow, hk, Instr.sameNow]
      · simp [lookF, hv]
    · obtain ⟨r, h1, h2⟩ := findNow_ofF k es kvs (i + 1) ht
      refine ⟨r, ?_, ?_⟩
      · have : (k == p.1) = false := by simpa using hkp
        simp [Instr.findNow, hk, Instr.sameNow, this, h1]
      · rw [h2]
        have : (p.1 == k) = false := by simpa using Ne.symm hkp
        simp [lookF, this]
theorem run_lookF {w : World} {b : Nat} {kvs : List (Int × Value)} (h : mapF w b kvs) (t e : TypeId) (ht : Try.prog.underlying t = some (.map 3 e)) (z : Value) (hz : (zeroValue e).run Try.prog w = .ok z w) (k : Int) :
    (Instr.lookup t (.map (some b)) (.int .i64 k) true).run Try.prog w = .ok (match lookF kvs k with | some v => .tuple #[v, .bool true] | none => .tuple #[z, .bool false]) w := by
  obtain ⟨es, c, hb, hes⟩ := h
  obtain ⟨r, h1, h2⟩ := findNow_ofF k es.toList kvs 0 hes
  have hck : ∀ em, (Instr.checkKey em 10000 3 (.int .i64 k)).run Try.prog w = .ok () w := fun em => Go.MapKept.run_checkKey (w := w) und3 (k := .int .i64 k) rfl em 9999
  have hfk : (Instr.findKey 3 (.int .i64 k) es.toList).run Try.prog w = .ok r w := by
    simp only [Instr.findKey, Sem.run_bind, run_underlying und3, Result.andThen_ok, h1]
    rfl
  simp only [Instr.lookup, run_underlying ht, Sem.run_bind, Result.andThen_ok, getObj, Sem.run, hb]
  cases r with
  | none =>
    have : lookF kvs k = none := by simpa using h2.symm
    simp [hck, hfk, hz, this]
  | some p =>
    obtain ⟨j, v⟩ := p
    have : lookF kvs k = some v := by simpa using h2.symm
    simp [hck, hfk, this]
theorem run_putF {w : World} {b : Nat} {kvs : List (Int × Value)} (h : mapF w b kvs) (t e : TypeId) (ht : Try.prog.underlying t = some (.map 3 e)) (k : Int) (v : Value) (hn : lookF kvs k = none) :
    ∃ o, (Instr.mapUpdate t (.map (some b)) (.int .i64 k) v).run Try.prog w = .ok () (setBlock w b o) ∧ mapF (setBlock w b o) b (kvs ++ [(k, v)]) := by
  obtain ⟨es, c, hb, hes⟩ := h
  obtain ⟨r, h1, h2⟩ := findNow_ofF k es.toList kvs 0 hes
  have hck : ∀ em, (Instr.checkKey em 10000 3 (.int .i64 k)).run Try.prog w = .ok () w := fun em => Go.MapKept.run_checkKey (w := w) und3 (k := .int .i64 k) rfl em 9999
  have hr : r = none := by
    rw [hn] at h2
    cases r with
    | none => rfl
    | some _ => simp at h2
  subst hr
  have hfk : (Instr.findKey 3 (.int .i64 k) es.toList).run Try.prog w = .ok none w := by
    simp only [Instr.findKey, Sem.run_bind, run_underlying und3, Result.andThen_ok, h1]
    rfl
  refine ⟨.map (es.push { key := .int .i64 k, val := v, born := c }) (c + 1), ?_, _, _, setB_heap hb, ?_⟩
  · simp only [Instr.mapUpdate, run_underlying ht, Sem.run_bind, Result.andThen_ok, getObj, Sem.run, hb, hck, hfk]
    simp [setObj, Sem.run, hb, setBlock]
  · simp [hes]
theorem wpList_putF {ops : Array Oper} {rest : List Oper} {o : Oper} {a : Act} {w : World} {Q : Exit → Act → World → Prop} (hg : o.guard = none) (m k v : Operand) (t e : TypeId) (ho : o.op = .insert t m k v) (ht : Try.prog.underlying t = some (.map 3 e)) {b : Nat} {kk : Int} {vv : Value} {kvs : List (Int × Value)}
    (hm : a.eval m = .map (some b)) (hk : a.eval k = .int .i64 kk) (hv : a.eval v = vv) (hmap : mapF w b kvs) (hn : lookF kvs kk = none)
    (h : ∀ w', mapF w' b (kvs ++ [(kk, vv)]) → Touch w w' (fun k => k = b) → wpList Try.prog ops Q rest (a.put o.dst undef) w') : wpList Try.prog ops Q (o :: rest) a w := by
  obtain ⟨o', hr, hmap'⟩ := run_putF hmap t e ht kk vv hn
  refine wpList_plain hg fun K hK => ?_
  unfold Oper.wp execOp
  simp only [ho, hm, hk, hv, Sem.run_bind, hr, Result.andThen_ok]
  exact hK _ _ (h _ hmap' (Touch.setB _ _ _))
theorem und79 : Try.prog.underlying 79 = some (.map 3 77) := by kernel_rfl

/-- The functions of the calls, by number. -/
def doing (cb : Nat) : List (Int × Value) := [(1, 40), (2, 41), (3, 42), (4, 43), (5, 44), (6, 45), (7, 46), (8, 47), (9, 48), (10, 49), (11, 50), (12, 51), (13, 52)].map fun p : Int × Nat => (p.1, .func (.func p.2) #[ptr cb] #[])

set_option maxHeartbeats 4000000 in
set_option maxRecDepth 100000 in
theorem calls_any (w : World) (cb : Nat) :
    Calls Try.prog 30 #[ptr cb] w fun e w' => ∃ m, e = .returned (.map (some m)) ∧ mapF w' m (doing cb) ∧ Below w.heap.size w w' := by
  obtain ⟨w0, hw0⟩ : ∃ w0, w0 = w.alloc (.map #[] 0) := ⟨_, rfl⟩
  have hmk : (Instr.makeMap 79 none).run Try.prog w = .ok (.map (some w.heap.size)) w0 := by rw [hw0]; rfl
  have hm0 : mapF w0 w.heap.size [] := by rw [hw0]; exact ⟨_, _, alloc_new w _, rfl⟩
  have hb0 : Below w.heap.size w w0 := by rw [hw0]; exact (Below.refl _ _).alloc (Nat.le_refl _) _
  have step : ∀ (wi : World) (kvs : List (Int × Value)) (k : Int) (v : Value), mapF wi w.heap.size kvs → Below w.heap.size w wi → lookF kvs k = none → ∃ wj, (Instr.mapUpdate 79 (.map (some w.heap.size)) (.int .i64 k) v).run Try.prog wi = .ok () wj ∧ mapF wj w.heap.size (kvs ++ [(k, v)]) ∧ Below w.heap.size w wj := by
    intro wi kvs k v hm hb hn
    obtain ⟨o, h1, h2⟩ := run_putF hm 79 77 und79 k v hn
    exact ⟨_, h1, h2, hb.trans ((Touch.setB wi w.heap.size o).below hb.size (fun k hk => by omega))⟩
  obtain ⟨w1, hr1, hm1, hb1⟩ := step w0 _ 1 (.func (.func 40) #[ptr cb] #[]) hm0 hb0 (by rfl)
  obtain ⟨w2, hr2, hm2, hb2⟩ := step w1 _ 2 (.func (.func 41) #[ptr cb] #[]) hm1 hb1 (by rfl)
  obtain ⟨w3, hr3, hm3, hb3⟩ := step w2 _ 3 (.func (.func 42) #[ptr cb] #[]) hm2 hb2 (by rfl)
  obtain ⟨w4, hr4, hm4, hb4⟩ := step w3 _ 4 (.func (.func 43) #[ptr cb] #[]) hm3 hb3 (by rfl)
  obtain ⟨w5, hr5, hm5, hb5⟩ := step w4 _ 5 (.func (.func 44) #[ptr cb] #[]) hm4 hb4 (by rfl)
  obtain ⟨w6, hr6, hm6, hb6⟩ := step w5 _ 6 (.func (.func 45) #[ptr cb] #[]) hm5 hb5 (by rfl)
  obtain ⟨w7, hr7, hm7, hb7⟩ := step w6 _ 7 (.func (.func 46) #[ptr cb] #[]) hm6 hb6 (by rfl)
  obtain ⟨w8, hr8, hm8, hb8⟩ := step w7 _ 8 (.func (.func 47) #[ptr cb] #[]) hm7 hb7 (by rfl)
  obtain ⟨w9, hr9, hm9, hb9⟩ := step w8 _ 9 (.func (.func 48) #[ptr cb] #[]) hm8 hb8 (by rfl)
  obtain ⟨w10, hr10, hm10, hb10⟩ := step w9 _ 10 (.func (.func 49) #[ptr cb] #[]) hm9 hb9 (by rfl)
  obtain ⟨w11, hr11, hm11, hb11⟩ := step w10 _ 11 (.func (.func 50) #[ptr cb] #[]) hm10 hb10 (by rfl)
  obtain ⟨w12, hr12, hm12, hb12⟩ := step w11 _ 12 (.func (.func 51) #[ptr cb] #[]) hm11 hb11 (by rfl)
  obtain ⟨w13, hr13, hm13, hb13⟩ := step w12 _ 13 (.func (.func 52) #[ptr cb] #[]) hm12 hb12 (by rfl)
  have HM := Lib.hid hm13
  have HB := Lib.hid hb13
  clear hw0 step hm0 hb0 hm1 hb1 hm2 hb2 hm3 hb3 hm4 hb4 hm5 hb5 hm6 hb6 hm7 hb7 hm8 hb8 hm9 hb9 hm10 hb10 hm11 hb11 hm12 hb12 hm13 hb13
  go_enter Try.func30, Try.ntmps30
  go_wp2
  go_ret
  exact ⟨_, rfl, HM.out, HB.out⟩
end Go.Proofs.Ytkmgbnklfnjfjaa.Ker
