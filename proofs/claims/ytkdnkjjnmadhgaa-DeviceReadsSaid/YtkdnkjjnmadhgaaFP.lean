import Derived.Test.YtkdnkjjnmadhgaaFO
/-! DeviceLines: the plan is handed in. -/
namespace Go.Proofs.Ytkdnkjjnmadhgaa.Dev
open Go.RowKit Go.Maps Go.Lib

theorem RowO.base {w : World} {B B' e sz n : Nat} {v : Value} {xs : List Value} (h : RowO w B e sz v n xs) (hb : B' ≤ B) : RowO w B' e sz v n xs := by
  refine ⟨h.1, ?_⟩
  rcases h.2 with h2 | ⟨g, off, cap, cur, hv, h1, h3⟩
  · exact .inl h2
  · exact .inr ⟨g, off, cap, cur, hv, Nat.le_trans hb h1, h3⟩
theorem SysL.lower {B B' : Nat} {w : World} {b d : Nat} {bm : BM} {lm : LM} (h : SysL B w b d bm lm line0) (hB : B' ≤ B) : SysL B' w b d bm lm line0 := by
  have hsm : lm.sm = [] := List.eq_nil_of_length_eq_zero (by rw [h.line.hm.1]; rfl)
  refine ⟨⟨Nat.le_trans hB h.bus.low, h.bus.cells, own_base h.bus.rd hB, h.bus.rr.base hB⟩, ⟨Nat.le_trans hB h.line.low, h.line.cells, h.line.rm.base hB, h.line.rq.base hB, ?_, ?_⟩, h.ds⟩
  · rw [hsm]; exact All2.nil_
  · have h1 := h.line.hl
    exact ⟨h1.1, h1.2.1, fun hn => by
      have : lm.vl.2.1 = 0 := by rw [← h1.1]; rfl
      omega⟩
/-- The road of the plan. -/
theorem line_road (ms : List (Sl × List Value)) (n : Nat) (lk : Nat → Int) (hn : n ≤ 1000) (hdl : ∀ m ∈ ms, m.2.length ≤ 64) (h0 : ∀ k, 0 < lk k) (m : Nat) :
    Road (fun i k s os => i ≤ n ∧ k ≤ m ∧ LR ms lk i k s os) n m (fun i => ((i / 3 : Nat) : Int)) lk (lineSend ms) untilS outS where
  look := fun i k s os hi hk h hc => ⟨h.1, hk, h.2.2.look hc.1 (by have := h0 k; omega)⟩
  skip := fun i k s os hi hk h hc => ⟨h.1, hk, h.2.2.skip⟩
  next := fun i s os hi h => ⟨hi, Nat.zero_le _, h.2.2.next hdl⟩
  few := fun i k s os h => by
    have h1 := h.2.2.len
    rw [List.length_append] at h1
    have := h.1
    omega
  last := fun s os h => by
    have h1 := h.2.2.len
    have h2 : (outS 1000000000 s).length ≤ s.pend.length := (List.takeWhile_sublist _).length_le
    rw [List.length_append] at h1 ⊢
    omega
theorem matchF_len : ∀ (rc : Int) (ws : List Rq) (l : List (Int × List Value)), (matchF rc ws l).2.2.2.length ≤ ws.length
  | rc, [], l => by simp [matchF]
  | rc, w :: ws, [] => by simp [matchF]
  | rc, w :: ws, m :: l => by
    have := matchF_len (max (max rc w.at_) m.1) ws l
    simp only [matchF, List.length_cons]
    omega
theorem lineF_few (p : PL) (q : Rq) (d : List Value) : (lineF p q d).2.length ≤ p.wait.length + 2 := by
  unfold lineF meetF
  simp only [List.length_append, List.length_map]
  have h1 := matchF_len (addF p q d).1.recv (addF p q d).1.wait (addF p q d).1.msgs
  have h2 : (addF p q d).1.wait.length ≤ p.wait.length + 1 ∧ (addF p q d).2.length ≤ 1 := by
    unfold addF
    split <;> simp
  omega
theorem lineRq_do (ms : List (Sl × List Value)) (i : Nat) : (lineRq ms i).2.1 = 1 ∨ (lineRq ms i).2.1 = 2 := by
  unfold lineRq
  split <;> simp
theorem lineRq_dat {w : World} {ms : List (Sl × List Value)} (h : ∀ m ∈ ms, Held w.heap.size 5 w m.1 m.2) (hdl : ∀ m ∈ ms, m.2.length ≤ 64) (i : Nat) : Held w.heap.size 5 w (lineRq ms i).2.2.2.2 (lineDat ms i) ∧ (lineDat ms i).length ≤ 64 := by
  unfold lineRq lineDat
  cases hm : ms[i]? with
  | none => exact ⟨Held.nil_, by simp⟩
  | some m => exact ⟨h m (List.mem_of_getElem? hm), hdl m (List.mem_of_getElem? hm)⟩
theorem lines_handed (w : World) (gc : Nat) (Ar Ad At Al : Option Addr) (ms : List (Sl × List Value)) (n nr nd nt m nl : Nat) (lk : Nat → Int) (hn : n ≤ 200) (hm : m ≤ 100) (hc : OneCfg w gc 0 4 0)
    (hP : PlanAt w w.heap.size Ar Ad At n (lineRq ms) (fun _ => 1) (fun i => ((i / 3 : Nat) : Int))) (hL : LooksAt w w.heap.size Al m lk) (hheld : ∀ x ∈ ms, Held w.heap.size 5 w x.1 x.2) (hdl : ∀ x ∈ ms, x.2.length ≤ 64)
    (h0 : ∀ k, 0 < lk k) (hasc : ∀ k k', k' < k → lk k' ≤ lk k) :
    Calls Try.prog 17 #[.slice (some ⟨gc, 0, none⟩) 1 1, .agg #[.slice Ar n nr, .slice Ad n nd, .slice At n nt], .slice Al m nl] w fun e w' => ∃ (v : Value) (s : LS) (os : List Ans) (rs : List Rp), e = .returned (.tuple #[v, ptr (w.heap.size + 1), .bool true]) ∧ (n ≤ n ∧ 0 ≤ m ∧ LR ms lk n 0 s os) ∧ LSt w (w.heap.size + 1) (untilS 1000000000 s) w' ∧ HOut w.heap.size w.heap.size w' v rs (os ++ outS 1000000000 s) := by
  refine handed_ok w _ Ar Ad At Al n nr nd nt m nl (w.heap.size + 1) (lineRq ms) (fun _ => 1) (fun i => ((i / 3 : Nat) : Int)) lk hP hL (by omega) (by omega) (fun i k s os => i ≤ n ∧ k ≤ m ∧ LR ms lk i k s os) (lineSend ms) untilS outS (line_road ms n lk (by omega) hdl h0 m)
    (LSt w (w.heap.size + 1)) ⟨line0, 0, 0, 0, []⟩ ⟨Nat.zero_le _, Nat.zero_le _, LR.start⟩ ?_ (fun s wr h => h.below) (fun s wr w' h ht => h.keep ht) ?_ ?_
  · intro W hW hs
    have hc' : OneCfg W gc 0 4 0 := fun j u hu => by
      have h1 := hc j u hu
      exact (hW.cell (lt_of_cell h1)).trans h1
    refine (new_line W gc 0 hc').mono ?_
    rintro e w' ⟨rfl, hb, d, bm, lm, h1, h2, h3, h4, h5⟩
    rw [hs] at h1
    refine ⟨by rw [hs], ⟨d, bm, lm, h1.lower (by omega), h2, h3, h4, by rw [h5]; exact All2.nil_, hW.trans (hb.mono hW.size)⟩, hb⟩
  · rintro i s os wr hi ⟨_, _, hR⟩ hS
    obtain ⟨hd1, hd2⟩ := lineRq_dat hheld hdl i
    have hlen := hR.len
    rw [List.length_append] at hlen
    have hw := hR.wait
    have hnx := (hR.next hdl).uniq
    have hpe : (lineSend ms i s).pend = sortA (s.pend ++ (lineF s.pl ⟨(lineRq ms i).1, (lineRq ms i).2.1, (lineRq ms i).2.2.1, (lineRq ms i).2.2.2.1, (lineRq ms i).2.2.2.2, ((i / 3 : Nat) : Int), s.sent⟩ (lineDat ms i)).2) := rfl
    rw [hpe] at hnx
    have hfw := lineF_few s.pl ⟨(lineRq ms i).1, (lineRq ms i).2.1, (lineRq ms i).2.2.1, (lineRq ms i).2.2.2.1, (lineRq ms i).2.2.2.2, ((i / 3 : Nat) : Int), s.sent⟩ (lineDat ms i)
    exact lst_send w (w.heap.size + 1) s wr hS (hR.fit (by omega) hdl) ((i / 3 : Nat) : Int) (lineRq ms i).1 (lineRq ms i).2.1 (lineRq ms i).2.2.1 (lineRq ms i).2.2.2.1 (lineRq ms i).2.2.2.2 (lineDat ms i) hd1 hd2 hR.now_send (by omega) (by omega) (lineRq_do ms i) (by rw [hR.sent]; omega) (by omega) (by omega)
      fun x hx y hy => uniq_mem hnx x (List.mem_append_right _ ((sortA_perm _).mem_iff.2 hx)) y (List.mem_append_right _ ((sortA_perm _).mem_iff.2 hy))
  · rintro t i k s os wr ⟨hin, hkm, hR⟩ hS ht
    have hlen := hR.len
    rw [List.length_append] at hlen
    refine lst_until w (w.heap.size + 1) s wr hS t ?_ (by omega) (by rw [hR.told]; omega)
    rcases ht with ⟨hi, hk, rfl, hcc⟩ | ⟨_, rfl⟩
    · exact hR.now_le (fun k' hk' => hasc k k' hk') (h0 k) hcc.2
    · have := hR.now_send
      omega
end Go.Proofs.Ytkdnkjjnmadhgaa.Dev
