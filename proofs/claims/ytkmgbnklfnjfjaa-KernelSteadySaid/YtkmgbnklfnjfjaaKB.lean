import Derived.Test.YtkmgbnklfnjfjaaKA
import Derived.Deep.RegionLaw
import Derived.Lib.SliceRun
/-! slices.Delete of one element of a row of pointers; (*queue).take. -/
namespace Go.Proofs.Ytkmgbnklfnjfjaa.Ker
open Go.RowKit Go.Maps

def putL : List Value → Nat → List Value → List Value
  | l, _, [] => l
  | l, o, v :: r => putL (l.set o v) (o + 1) r
theorem putL_eq : ∀ (vs l : List Value) (o : Nat), o + vs.length ≤ l.length → putL l o vs = l.take o ++ vs ++ l.drop (o + vs.length)
  | [], l, o, _ => by simp [putL]
  | v :: r, l, o, h => by
    simp only [List.length_cons] at h
    rw [putL, putL_eq r _ (o + 1) (by simp; omega)]
    rw [List.take_succ_eq_append_getElem (by simp; omega)]
    rw [List.take_set_of_le (Nat.le_refl _), List.drop_set_of_lt (by omega)]
    simp
    congr 1
    omega
theorem setCells_heap (b : Nat) (ty : TypeId) : ∀ (vs : List Value) (o : Nat) (w : World) (c : Array Value), w.heap[b]? = some (.cells c ty (0, 0)) →
    (w.setCells b o vs).heap[b]? = some (.cells (putL c.toList o vs).toArray ty (0, 0)) ∧ Touch w (w.setCells b o vs) (fun k => k = b)
  | [], o, w, c, h => ⟨by simpa [World.setCells, putL] using h, Touch.refl _ _⟩
  | v :: r, o, w, c, h => by
    obtain ⟨h1, h2⟩ := setCells_heap b ty r (o + 1) (w.setCell ⟨b, o, none⟩ v) (c.setIfInBounds o v) (set_same h o v)
    refine ⟨?_, (Touch.setCell w ⟨b, o, none⟩ v (S := fun k => k = b) rfl).trans h2⟩
    simp only [World.setCells, putL]
    rw [h1]
    simp

theorem zero84 (w : World) : (zeroValue 84).run Try.prog w = .ok (.pointer none) w := by kernel_rfl

set_option maxHeartbeats 1000000 in
set_option maxRecDepth 100000 in
theorem delete_any (w : World) (g n cap k : Nat) (cur : Array Value) (hg : w.heap[g]? = some (.cells cur 84 (0, 0))) (hs : cur.size = cap) (hn : n ≤ cap) (hcap : cap ≤ maxLen) (hk : k < n) (hone : ∀ x ∈ cur.toList.take n, x.oneCell' = true) :
    Calls Try.prog 92 #[.slice (some ⟨g, 0, none⟩) n cap, .int .i64 k, .int .i64 ((k : Int) + 1)] w fun e w' => e = .returned (.slice (some ⟨g, 0, none⟩) (n - 1) cap) ∧ Touch w w' (fun b => b = g) ∧ ∃ cur', w'.heap[g]? = some (.cells cur' 84 (0, 0)) ∧ cur'.size = cap ∧ cur'.toList.take (n - 1) = (cur.toList.take n).eraseIdx k := by
  unfold maxLen at hcap
  obtain ⟨i0, hi, hz0, hz1, hz2⟩ := info_parts info84
  obtain ⟨news, hnews⟩ : ∃ news, news = (cur.toList.take n).drop (k + 1) := ⟨_, rfl⟩
  have hlen : news.length = n - (k + 1) := by rw [hnews]; simp; omega
  have hcell : ∀ t, t < cap → w.cell? ⟨g, t, none⟩ = cur[t]? := fun t _ => cell_of hg t
  obtain ⟨A, hA, hsrc⟩ : ∃ A : Addr, (if cap = k + 1 then some (⟨g, 0, none⟩ : Addr) else some ⟨g, k + 1, none⟩) = some A ∧ Hid (∀ t u, news[t]? = some u → w.drew.cell? (A.add t) = some u) := by
    by_cases h : cap = k + 1
    · refine ⟨⟨g, 0, none⟩, by simp [h], fun t u hu => ?_⟩
      have h0 : news.length = 0 := by rw [hlen]; omega
      rw [List.length_eq_zero_iff.1 h0] at hu
      simp at hu
    · refine ⟨⟨g, k + 1, none⟩, by simp [h], fun t u hu => ?_⟩
      have ht : t < n - (k + 1) := by
        have := (List.getElem?_eq_some_iff.1 hu).1
        rwa [hlen] at this
      rw [Addr.add_lit]
      refine (hcell (k + 1 + t) (by omega)).trans ?_
      rw [hnews, List.getElem?_drop, List.getElem?_take] at hu
      simpa [show k + 1 + t < n by omega] using hu
  have s1 : Hid (news.length = (n - (k + 1)) * 1) := by rw [Nat.mul_one]; exact hlen
  have s2 : Hid (∀ u ∈ news, u.oneCell' = true) := by
    intro u hu
    rw [hnews] at hu
    exact hone u (List.mem_of_mem_drop hu)
  have s3 : Hid (∀ t, t < news.length → (w.drew.cell? ⟨g, 0 + k * 1 + t, none⟩).isSome = true ∧ w.drew.frozen? ⟨g, 0 + k * 1 + t, none⟩ = false) := by
    intro t ht
    rw [hlen] at ht
    rw [Nat.mul_one, Nat.zero_add]
    refine ⟨?_, free_of hg _⟩
    show (w.cell? _).isSome = true
    rw [hcell (k + t) (by omega), Array.getElem?_eq_getElem (by omega)]
    rfl
  obtain ⟨W1, hW1⟩ : ∃ W1, W1 = w.drew.setCells g (0 + k * 1) news := ⟨_, rfl⟩
  obtain ⟨g1, t1⟩ := setCells_heap g 84 news (0 + k * 1) w.drew cur hg
  rw [← hW1] at g1 t1
  have hp1 : putL cur.toList (0 + k * 1) news = cur.toList.take k ++ news ++ cur.toList.drop (k + (n - (k + 1))) := by
    rw [putL_eq _ _ _ (by rw [hlen]; simp; omega), hlen]
    simp
  rw [hp1] at g1
  have hsz1 : (cur.toList.take k ++ news ++ cur.toList.drop (k + (n - (k + 1)))).length = cap := by simp [hlen]; omega
  have hcl : ∀ ty, (Builtin.clear_ #[72] ty #[.slice (some ⟨g, k + (n - (k + 1)), none⟩) (n - (k + (n - (k + 1)))) (cap - (k + (n - (k + 1))))]).run Try.prog W1 = .ok (.tuple #[]) (W1.setCells g (k + (n - (k + 1))) (List.replicate (n - (k + (n - (k + 1)))) (.pointer none))) := by
    intro ty
    refine Lib.run_clear_slice W1 _ _ ty _ Try.underlying72 zero84 rfl rfl g _ _ _ (by omega) (fun t ht => ?_) (fun t ht => free_of g1 _)
    rw [cell_of g1, Array.getElem?_eq_getElem (by simp only [List.size_toArray, hsz1]; omega)]
    rfl
  obtain ⟨g2, t2⟩ := setCells_heap g 84 (List.replicate (n - (k + (n - (k + 1)))) (.pointer none)) (k + (n - (k + 1))) W1 _ g1
  have hW : Hid (W1 = w.drew.setCells g (0 + k * 1) news) := hW1
  have hic : k ≤ cap := by omega
  have hjc : k + 1 ≤ cap := by omega
  have FIN : Hid (∀ w', w' = W1.setCells g (k + (n - (k + 1))) (List.replicate (n - (k + (n - (k + 1)))) (.pointer none)) → Touch w w' (fun b => b = g) ∧ ∃ cur', w'.heap[g]? = some (.cells cur' 84 (0, 0)) ∧ cur'.size = cap ∧ cur'.toList.take (n - 1) = (cur.toList.take n).eraseIdx k) := by
    rintro w' rfl
    refine ⟨(Touch.drew w _).trans (t1.trans t2), _, g2, ?_, ?_⟩
    · rw [putL_eq _ _ _ (by simp [hlen]; omega)]
      simp [hlen]
      omega
    · rw [putL_eq _ _ _ (by simp [hlen]; omega)]
      have e1 : ((cur.toList.take k ++ news ++ cur.toList.drop (k + (n - (k + 1))))).take (k + (n - (k + 1))) = (cur.toList.take n).eraseIdx k := by
        have hl2 : (cur.toList.take k ++ news).length = k + (n - (k + 1)) := by simp [hlen]; omega
        rw [List.eraseIdx_eq_take_drop_succ, ← hnews, List.take_append, List.take_of_length_le (by omega)]
        have : (k + (n - (k + 1))) - (cur.toList.take k ++ news).length = 0 := by omega
        rw [this, List.take_zero, List.append_nil, List.take_take]
        congr 2
        omega
      have hl3 : ((cur.toList.take n).eraseIdx k).length = n - 1 := by
        rw [List.length_eraseIdx, if_pos (by simp; omega)]
        simp
        omega
      rw [e1, List.append_assoc, List.take_append, List.take_of_length_le (by omega)]
      have h0 : n - 1 - ((cur.toList.take n).eraseIdx k).length = 0 := by omega
      rw [h0, List.take_zero, List.append_nil]
  clear g1 g2 t1 t2 hW1 hp1 hsz1 hcell hnews hlen hone hg hs
  have hkw : IntKind.i64.wrap ((k : Int) + 1) = (k : Int) + 1 := by rw [IntKind.wrap_i64]; omega
  have hp0 : (0 : Int) ≤ (k : Int) + 1 := by omega
  have hp1 : (k : Int) + 1 ≤ (n : Int) := by omega
  have hp2 : ((k : Int) + 1).toNat = k + 1 := by omega
  go_enter Try.func92, Try.ntmps92
  go_wp2_with fail
  go_region_law (refine step_append_room rfl (.tmp 22) (.tmp 25) 72 rfl 84 i0 1 Try.underlying72 hi hz1 g 0 k cap (by simp [Act.eval, Act.put]) A (n - (k + 1)) (cap - (k + 1)) news (by simp [Act.eval, Act.put]) s1.out hsrc.out s2.out (by omega) s3.out ?_; rw [← hW.out])
  go_wp2
  go_ret
  have e1 : k + (n - (k + 1)) = n - 1 := by omega
  exact ⟨by show Ending.returned (.slice (some ⟨g, 0, none⟩) (k + (n - (k + 1))) cap) = _; rw [e1], FIN.out _ rfl⟩

set_option maxHeartbeats 400000 in
set_option maxRecDepth 100000 in
/-- '(*queue).take': the element that stands at place k (its first place) goes. -/
theorem take_any (w : World) (base : Nat) (qb qo ty : Nat) (c : Array Value) (v : Value) (bs : List Nat) (b k : Nat) (hq : w.heap[qb]? = some (.cells c ty (0, 0))) (hc : c[qo]? = some v)
    (hown : w.ownsRow base 84 1 v bs.length (bs.map ptr)) (hn : bs.length ≤ 100000) (hne : some qb ≠ v.ownBlock) (hp : ∀ x ∈ bs, isPack w x) (hpb : isPack w b) (hk : bs[k]? = some b) (hf : ∀ j, j < k → bs[j]? ≠ some b) :
    Calls Try.prog 77 #[.pointer (some ⟨qb, qo, none⟩), ptr b] w fun e w' => e = .returned (.tuple #[]) ∧ ∃ v', Touch w w' (fun i => i = qb ∨ some i = v.ownBlock) ∧ w'.heap[qb]? = some (.cells (c.setIfInBounds qo v') ty (0, 0)) ∧ w'.ownsRow base 84 1 v' (bs.length - 1) ((bs.eraseIdx k).map ptr) ∧ v'.ownBlock = v.ownBlock := by
  have hkn : k < bs.length := (List.getElem?_eq_some_iff.1 hk).1
  obtain ⟨g, cap, rfl, hbg, hnc, hcm, cur, hg, hsz, htk, hcell⟩ := own_cell hown (by omega)
  have hq0 : w.cell? ⟨qb, qo, none⟩ = some (.slice (some ⟨g, 0, none⟩) bs.length cap) := (cell_of hq qo).trans hc
  have C1 := Lib.hid (index_any w g bs.length cap bs b rfl hn hcell hp hpb k hk hf)
  have C2 := Lib.hid (delete_any w g bs.length cap k cur hg hsz hnc hcm hkn (by intro x hx; rw [htk] at hx; obtain ⟨y, _, rfl⟩ := List.mem_map.1 hx; rfl))
  have hlt := blt hq
  have hgl := blt hg
  have HQ := Lib.hid hq
  have HC := Lib.hid hc
  have HT := Lib.hid htk
  have hne' : qb ≠ g := fun e => hne (by rw [e]; rfl)
  clear hq hc hcell hp hpb hk hf htk hg hsz hown hne
  go_enter Try.func77, Try.ntmps77
  go_wp2_with (first | (go_at_call 91; (with_reducible refine C1.out.mono ?_); rintro e w' ⟨rfl, rfl⟩) | (go_at_call 92; (with_reducible refine C2.out.mono ?_); rintro e w1 ⟨rfl, ht, hg1⟩; have HG := Lib.hid hg1; have HQ1 := Lib.hid ((ht.block qb hlt hne').trans HQ.out); have hq1 : w1.cell? ⟨qb, qo, none⟩ = some (.slice (some ⟨g, 0, none⟩) bs.length cap) := (cell_of HQ1.out qo).trans HC.out; have hz1 : w1.frozen? ⟨qb, qo, none⟩ = false := free_of HQ1.out qo; have HTT := Lib.hid ht; clear ht hg1))
  go_end0
  obtain ⟨cur', hg', hs', ht'⟩ := HG.out
  refine ⟨rfl, _, (HTT.out.mono (fun i _ h => .inr (by rw [h]; rfl))).trans (Touch.setCell _ _ _ (S := fun i => i = qb ∨ some i = _) (.inl rfl)), set_same HQ1.out _ _, ⟨by simp [List.length_eraseIdx, hkn], .inr ⟨g, cap, cur', rfl, hbg, (set_other (Ne.symm hne')).trans hg', by omega, hcm, by simpa using hs', ?_⟩⟩, rfl⟩
  rw [Nat.mul_one, ht', HT.out]
  simp [List.eraseIdx_eq_take_drop_succ, List.map_take, List.map_drop]
end Go.Proofs.Ytkmgbnklfnjfjaa.Ker
