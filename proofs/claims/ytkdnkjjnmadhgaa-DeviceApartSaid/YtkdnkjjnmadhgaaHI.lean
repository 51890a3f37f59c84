import Derived.Test.YtkdnkjjnmadhgaaHH
import Derived.Test.YtkdnkjjnmadhgaaGL
set_option linter.unusedVariables false
set_option linter.unusedSimpArgs false
/-! A bus with any devices: what is refused; all replies are taken; its numbers. -/
namespace Go.Proofs.Ytkdnkjjnmadhgaa.Dev
open Go.RowKit Go.Maps Go.Lib

theorem matchF_sub : ∀ (rc : Int) (ws : List Rq) (l : List (Int × List Value)), (matchF rc ws l).2.1.length ≤ ws.length ∧ (matchF rc ws l).2.2.1.length ≤ l.length ∧ ∀ x ∈ (matchF rc ws l).2.2.1, x ∈ l
  | rc, [], l => by simp [matchF]
  | rc, w :: ws, [] => by simp [matchF]
  | rc, w :: ws, m :: l => by
    obtain ⟨h1, h2, h3⟩ := matchF_sub (max (max rc w.at_) m.1) ws l
    refine ⟨?_, ?_, fun x hx => ?_⟩
    · simp only [matchF, List.length_cons]; omega
    · simp only [matchF, List.length_cons]; omega
    · simp only [matchF] at hx
      exact List.mem_cons_of_mem _ (h3 x hx)
/-- The numbers of a device behind another request. -/
theorem PInv.step {i : Nat} {p : PDv} (h : PInv i p) (q : Rq) (data : List Int) (h0 : 0 ≤ q.at_) (h1 : q.at_ ≤ 1000000000) (hdo : 1 ≤ q.do_ ∧ q.do_ ≤ mostDo p) : PInv (i + 1) (devF p q (bytes data)).1 := by
  cases p with
  | clock => trivial
  | disk p =>
    obtain ⟨a1, a2, a3, a4, a5, a6, a7, a8⟩ := h
    have m1 : 0 ≤ max q.at_ p.free ∧ max q.at_ p.free ≤ 1000000000 + 257 * ((i + 1 : Nat) : Int) := by omega
    show PInv (i + 1) (.disk (diskF p q (bytes data)).1)
    have m2 : 0 ≤ q.a_ → q.a_ < (p.blocks.length : Int) → 0 ≤ moveF p q ∧ moveF p q ≤ 1000000000 + 257 * ((i + 1 : Nat) : Int) := fun b1 b2 => by
      unfold moveF
      omega
    unfold diskF
    by_cases h3 : q.do_ = 3
    · rw [if_pos h3]
      exact ⟨a1, a2, a3, by show p.writes.length ≤ i + 1; omega, a5, a6, m1.1, m1.2⟩
    · rw [if_neg h3]
      by_cases hr : q.a_ < 0 ∨ (p.blocks.length : Int) ≤ q.a_
      · rw [if_pos hr]
        exact ⟨a1, a2, a3, by show p.writes.length ≤ i + 1; omega, a5, a6, m1.1, m1.2⟩
      · rw [if_neg hr]
        have b1 : 0 ≤ q.a_ := by omega
        have b2 : q.a_ < (p.blocks.length : Int) := by omega
        obtain ⟨m3, m4⟩ := m2 b1 b2
        by_cases hb : (q.do_ = 1 ∧ 0 < (bytes data).length) ∨ (q.do_ = 2 ∧ (bytes data).length ≠ 64)
        · rw [if_pos hb]
          exact ⟨a1, a2, a3, by show p.writes.length ≤ i + 1; omega, a5, a6, m1.1, m1.2⟩
        · rw [if_neg hb]
          by_cases hbad : q.a_ ∈ p.bad
          · rw [if_pos hbad]
            exact ⟨a1, a2, a3, by show p.writes.length ≤ i + 1; omega, b1, by show q.a_ ≤ 256; omega, m3, m4⟩
          · rw [if_neg hbad]
            by_cases hd1 : q.do_ = 1
            · rw [if_pos hd1]
              exact ⟨a1, a2, a3, by show p.writes.length ≤ i + 1; omega, b1, by show q.a_ ≤ 256; omega, m3, m4⟩
            · rw [if_neg hd1]
              refine ⟨fun x hx => ?_, by show (p.blocks.set _ _).length ≤ 256; rw [List.length_set]; exact a2, a3, by show (p.writes ++ [_]).length ≤ i + 1; simp; omega, b1, by show q.a_ ≤ 256; omega, m3, m4⟩
              rcases List.mem_or_eq_of_mem_set hx with hx | rfl
              · exact a1 x hx
              · by_cases h2 : q.do_ = 2
                · have : (bytes data).length = 64 := by
                    by_cases e : (bytes data).length = 64
                    · exact e
                    · exact absurd (.inr ⟨h2, e⟩) hb
                  omega
                · have e1 := hdo.1
                  have e2 := hdo.2
                  simp only [mostDo] at e2
                  omega
  | term p =>
    obtain ⟨a1, a2, a3⟩ := h
    show PInv (i + 1) (.term (termF p q (bytes data)).1)
    unfold termF
    split
    · exact ⟨a1, a2, a3⟩
    · split
      · rename_i t0 ts k0 ks e1 e2
        rw [e1, e2] at a1
        rw [e1] at a3
        rw [e2] at a2
        exact ⟨by simpa using a1, fun b hb => a2 b (by simp [hb]), by show ts.length ≤ 300; simp at a3; omega⟩
      · exact ⟨a1, a2, a3⟩
  | line p =>
    obtain ⟨a1, a2, a3, a4, a5, a6, a7, a8⟩ := h
    by_cases hlong : q.do_ = 2 ∧ 64 < (bytes data).length
    · have e1 : devF (.line p) q (bytes data) = (.line p, [(q, q.at_, -3, [])]) := by
        exact if_pos hlong
      rw [e1]
      exact ⟨a1, by omega, by omega, a4, a5, by omega, by omega, a8⟩
    · have e1 : devF (.line p) q (bytes data) = (.line (lineF p q (bytes data)).1, (lineF p q (bytes data)).2) := by
        exact if_neg hlong
      rw [e1]
      show PInv (i + 1) (.line (lineF p q (bytes data)).1)
      have hadd : 0 ≤ (addF p q (bytes data)).1.free ∧ (addF p q (bytes data)).1.free ≤ 1000000000 + 10 * ((i + 1 : Nat) : Int) ∧ (addF p q (bytes data)).1.sent ≤ ((i + 1 : Nat) : Int) ∧ 0 ≤ (addF p q (bytes data)).1.sent ∧ (addF p q (bytes data)).1.lost.length ≤ 300 ∧ (addF p q (bytes data)).1.msgs.length ≤ i + 1 ∧ (addF p q (bytes data)).1.wait.length ≤ i + 1 ∧ ∀ x ∈ (addF p q (bytes data)).1.msgs, x.2.length ≤ 64 := by
        unfold addF
        split
        · refine ⟨a1, by show p.free ≤ _; omega, by show p.sent ≤ _; omega, a4, a5, by show p.msgs.length ≤ _; omega, by show (p.wait ++ [q]).length ≤ _; simp; omega, a8⟩
        · rename_i hd1
          have hdl : (bytes data).length ≤ 64 := by
            have e1 := hdo.1
            have e2 := hdo.2
            simp only [mostDo] at e2
            by_cases e : 64 < (bytes data).length
            · exact absurd ⟨by omega, e⟩ hlong
            · omega
          have hg : 0 ≤ goneF p q (bytes data).length ∧ goneF p q (bytes data).length ≤ 1000000000 + 10 * ((i + 1 : Nat) : Int) := by unfold goneF; omega
          refine ⟨hg.1, hg.2, by show p.sent + 1 ≤ _; omega, by show 0 ≤ p.sent + 1; omega, a5, ?_, by show p.wait.length ≤ _; omega, ?_⟩
          · show (if _ then _ else _ : List (Int × List Value)).length ≤ i + 1
            split
            · omega
            · simp; omega
          · intro x hx
            dsimp only at hx
            split at hx
            · exact a8 x hx
            · rcases List.mem_append.1 hx with hx | hx
              · exact a8 x hx
              · rw [List.mem_singleton.1 hx]; exact hdl
      obtain ⟨b1, b2, b3, b4, b5, b6, b7, b8⟩ := hadd
      obtain ⟨c1, c2, c3⟩ := matchF_sub (addF p q (bytes data)).1.recv (addF p q (bytes data)).1.wait (addF p q (bytes data)).1.msgs
      exact ⟨b1, b2, b3, b4, b5, Nat.le_trans c2 b6, Nat.le_trans c1 b7, fun x hx => b8 x (c3 x hx)⟩
/-- A request that is taken. -/
def OkG (g : GB) (dev at_ do_ : Int) (len : Nat) : Prop := (1 ≤ dev ∧ dev ≤ (g.ds.length : Int)) ∧ g.now ≤ at_ ∧ at_ ≤ 1000000000 ∧ (∀ p, g.ds[(dev - 1).toNat]? = some p → 1 ≤ do_ ∧ do_ ≤ mostDo p) ∧ len ≤ 4000
theorem gst_refuse (w : World) (b : Nat) (g : GB) (wr : World) (h : GSt w b g wr) (hs100 : g.sent < 100) (dev at_ pk do_ a_ b_ : Int) (dv : Sl) (len : Nat) (hdl : dv.2.1 = len) (hok : ¬ OkG g dev at_ do_ len) :
    Calls Try.prog 28 #[ptr b, .int .i64 dev, .int .i64 at_, .agg #[.int .i64 pk, .int .i64 do_, .int .i64 a_, .int .i64 b_, slv dv]] wr fun e w' => ∃ c : Int, c ≠ 0 ∧ e = .returned (.int .i64 c) ∧ Below wr.heap.size wr w' := by
  obtain ⟨bm, Ss, hs, h1, h2, h3, h4, hbl⟩ := h
  by_cases hdev : dev < 1 ∨ (bm.ds.length : Int) < dev
  · exact (send_none wr w.heap.size b bm hs.bus dev at_ hdev pk do_ a_ b_ dv).mono fun e w' hh => ⟨1, by decide, hh.1, hh.2⟩
  · have hd1 : 1 ≤ dev := by omega
    have hdl2 : (dev - 1).toNat < g.ds.length := by rw [← hs.len1]; omega
    obtain ⟨v, p, S, hv, hp, hS, hD⟩ := hs.get hdl2
    have hok2 : ¬ at_ < bm.now → ¬ 1000000000 < at_ → (1 ≤ do_ ∧ do_ ≤ mostDo p) → 4000 < dv.2.1 := fun c1 c2 c3 => by
      by_cases c4 : len ≤ 4000
      · refine absurd ⟨⟨hd1, by rw [← hs.len1]; omega⟩, by rw [← h1]; omega, by omega, fun p' hp' => ?_, c4⟩ hok
        obtain rfl : p = p' := by rw [hp] at hp'; injection hp'
        exact c3
      · omega
    cases p with
    | clock =>
      obtain ⟨rfl, _⟩ := hD
      by_cases c1 : at_ < bm.now
      · exact (send_late_c wr w.heap.size b bm hs.bus dev at_ hd1 hv pk do_ a_ b_ dv c1).mono fun e w' hh => ⟨1, by decide, hh.1, hh.2⟩
      · by_cases c2 : 1000000000 < at_
        · exact (send_far_c wr w.heap.size b bm hs.bus dev at_ hd1 hv pk do_ a_ b_ dv c1 c2).mono fun e w' hh => ⟨1, by decide, hh.1, hh.2⟩
        · by_cases c3 : 1 ≤ do_ ∧ do_ ≤ 1
          · exact (send_much_c wr w.heap.size b bm hs.bus dev at_ hd1 hv pk do_ a_ b_ dv c1 c2 c3 (by omega) (hok2 c1 c2 c3)).mono fun e w' hh => ⟨2, by decide, hh.1, hh.2⟩
          · exact (send_what_c wr w.heap.size b bm hs.bus dev at_ hd1 hv pk do_ a_ b_ dv c1 c2 c3).mono fun e w' hh => ⟨1, by decide, hh.1, hh.2⟩
    | disk p =>
      obtain ⟨d, m, rfl, _⟩ := hD
      by_cases c1 : at_ < bm.now
      · exact (send_late wr w.heap.size b d bm hs.bus dev at_ hd1 hv pk do_ a_ b_ dv c1).mono fun e w' hh => ⟨1, by decide, hh.1, hh.2⟩
      · by_cases c2 : 1000000000 < at_
        · exact (send_far wr w.heap.size b d bm hs.bus dev at_ hd1 hv pk do_ a_ b_ dv c1 c2).mono fun e w' hh => ⟨1, by decide, hh.1, hh.2⟩
        · by_cases c3 : 1 ≤ do_ ∧ do_ ≤ 3
          · exact (send_much wr w.heap.size b d bm hs.bus dev at_ hd1 hv pk do_ a_ b_ dv c1 c2 c3 (by omega) (hok2 c1 c2 c3)).mono fun e w' hh => ⟨2, by decide, hh.1, hh.2⟩
          · exact (send_what wr w.heap.size b d bm hs.bus dev at_ hd1 hv pk do_ a_ b_ dv c1 c2 c3).mono fun e w' hh => ⟨1, by decide, hh.1, hh.2⟩
    | term p =>
      obtain ⟨d, m, rfl, _⟩ := hD
      by_cases c1 : at_ < bm.now
      · exact (send_late_t wr w.heap.size b d bm hs.bus dev at_ hd1 hv pk do_ a_ b_ dv c1).mono fun e w' hh => ⟨1, by decide, hh.1, hh.2⟩
      · by_cases c2 : 1000000000 < at_
        · exact (send_far_t wr w.heap.size b d bm hs.bus dev at_ hd1 hv pk do_ a_ b_ dv c1 c2).mono fun e w' hh => ⟨1, by decide, hh.1, hh.2⟩
        · by_cases c3 : 1 ≤ do_ ∧ do_ ≤ 2
          · exact (send_much_t wr w.heap.size b d bm hs.bus dev at_ hd1 hv pk do_ a_ b_ dv c1 c2 c3 (by omega) (hok2 c1 c2 c3)).mono fun e w' hh => ⟨2, by decide, hh.1, hh.2⟩
          · exact (send_what_t wr w.heap.size b d bm hs.bus dev at_ hd1 hv pk do_ a_ b_ dv c1 c2 c3).mono fun e w' hh => ⟨1, by decide, hh.1, hh.2⟩
    | line p =>
      obtain ⟨d, m, rfl, _⟩ := hD
      by_cases c1 : at_ < bm.now
      · exact (send_late_l wr w.heap.size b d bm hs.bus dev at_ hd1 hv pk do_ a_ b_ dv c1).mono fun e w' hh => ⟨1, by decide, hh.1, hh.2⟩
      · by_cases c2 : 1000000000 < at_
        · exact (send_far_l wr w.heap.size b d bm hs.bus dev at_ hd1 hv pk do_ a_ b_ dv c1 c2).mono fun e w' hh => ⟨1, by decide, hh.1, hh.2⟩
        · by_cases c3 : 1 ≤ do_ ∧ do_ ≤ 2
          · exact (send_much_l wr w.heap.size b d bm hs.bus dev at_ hd1 hv pk do_ a_ b_ dv c1 c2 c3 (by omega) (hok2 c1 c2 c3)).mono fun e w' hh => ⟨2, by decide, hh.1, hh.2⟩
          · exact (send_what_l wr w.heap.size b d bm hs.bus dev at_ hd1 hv pk do_ a_ b_ dv c1 c2 c3).mono fun e w' hh => ⟨1, by decide, hh.1, hh.2⟩
/-- The replies up to a time. -/
def outG (g : GB) (t : Int) : List AnsD := (sortG g.all).takeWhile fun o => decide (o.2.2.1 ≤ t)
theorem gst_until (w : World) (b : Nat) (g : GB) (wr : World) (h : GSt w b g wr) (t : Int) (ht : g.now ≤ t) (hall : g.all.length ≤ 100000) :
    Calls Try.prog 29 #[ptr b, .int .i64 t] wr fun e w' => ∃ (v : Sl) (rs : List Rp), e = .returned (slv v) ∧ HOut w.heap.size wr.heap.size w' (slv v) rs ((outG g t).map (·.2)) ∧ Below w.heap.size w w' ∧ Frame3 wr w' := by
  obtain ⟨bm, Ss, hs, h1, h2, h3, h4, hbl⟩ := h
  have hrl : bm.rs.length = g.all.length := by rw [h4.1]; exact (sortG_perm _).length_eq
  refine (until_any wr w.heap.size b bm hs.bus t (by rw [h1]; exact ht) (by omega) (by omega)).mono ?_
  rintro e w' ⟨v, j, rfl, hj, c1, c2, hrow, htc, vr, hbr, _⟩
  have hty : ∀ k, k = b → w.heap.size ≤ k ∧ ∃ cur ty, wr.heap[k]? = some (.cells cur ty (0, 0)) ∧ (ty = 80 ∨ ty = 95) := fun k hk => hs.bus.tys (.inl hk)
  have hlen := h4.1
  obtain ⟨e1, _⟩ := cut_while (P := fun o : AnsD => decide (o.2.2.1 ≤ t)) (l := sortG g.all) (j := j) (by omega) (fun o ho => by
    obtain ⟨i, hi, rfl⟩ := List.mem_iff_getElem.1 ho
    have hl := (h4.take j).1
    have hx := (h4.take j).2 i _ _ (List.getElem?_eq_getElem (by omega)) (List.getElem?_eq_getElem hi)
    have := c1 _ (List.getElem_mem (by omega : i < (bm.rs.take j).length))
    rw [hx.2.1] at this
    simpa using this) (fun o r ho => by
    have hd := h4.drop j
    rw [ho] at hd
    cases hr : bm.rs.drop j with
    | nil => rw [hr] at hd; have := hd.1; simp at this
    | cons x l' =>
      rw [hr] at hd
      have hx := hd.2 0 x o rfl rfl
      have := c2 x l' hr
      rw [hx.2.1] at this
      simp
      omega)
  have hfr : Frame3 wr w' := fun k cur ty hc ht => htc.block k (blt hc) fun e => by
    subst e
    rw [hs.bus.cells] at hc
    simp at hc
    obtain ⟨_, rfl⟩ := hc
    simp at ht
  have hrt : (bm.rs.take j).length = j := by rw [List.length_take]; omega
  refine ⟨v, bm.rs.take j, rfl, ⟨by rw [hrt]; exact hrow, ?_⟩, hbl.trans (htc.below hbl.size fun k hk => by rw [hk]; exact hs.bus.low), hfr⟩
  unfold outG
  rw [← e1]
  have h5 := h4.take j
  refine ⟨by rw [List.length_map]; exact h5.1, fun i x y hx hy => ?_⟩
  rw [List.getElem?_map] at hy
  cases hz : ((sortG g.all).take j)[i]? with
  | none => rw [hz] at hy; cases hy
  | some z =>
    rw [hz] at hy
    injection hy with hy
    subst hy
    have hh := h5.2 i x z hx hz
    refine ⟨hh.1, hh.2.1, hh.2.2.1, hh.2.2.2.2.1, hh.2.2.2.2.2.touch5 htc fun k hk => ?_⟩
    obtain ⟨h7, cur, ty, h8, h9⟩ := hty k hk
    exact ⟨h7, cur, ty, h8, by rcases h9 with rfl | rfl <;> decide⟩
end Go.Proofs.Ytkdnkjjnmadhgaa.Dev
