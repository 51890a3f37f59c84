import Derived.Test.YtkdnkjjnmadhgaaDG
import Derived.Test.YtkdnkjjnmadhgaaDE
import Derived.Test.YtkdnkjjnmadhgaaDU
set_option linter.unusedVariables false
set_option linter.unusedSimpArgs false
/-! Rows of replies, sorted. -/
namespace Go.Proofs.Ytkdnkjjnmadhgaa.Dev
open Go.Shelf Go.RowKit Go.Lib Go.Sort Go.Proofs

theorem flatK_get (rs : List Rp) (t : Nat) (ht : t < rs.length * 6) : some ((flatK encR 6 rs.toArray)[t]!) = (rs.flatMap encR)[t]? := by
  have h1 : t / 6 < rs.length := by omega
  rw [get_flatK encR 6 rs.toArray t (by simpa using ht)]
  have h2 := flat_get encR 6 (fun _ => rfl) rs (t / 6) rs[t / 6] (List.getElem?_eq_getElem h1) (t % 6) (by omega)
  rw [show t / 6 * 6 + t % 6 = t by omega] at h2
  rw [h2]
  have h3 : rs.toArray[t / 6]! = rs[t / 6] := by simp [h1]
  rw [h3, List.getElem!_eq_getElem?_getD]
  have h4 : t % 6 < (encR rs[t / 6]).length := by show t % 6 < 6; omega
  rw [List.getElem?_eq_getElem h4]
  rfl
theorem flatR_len : ∀ l : List Rp, (l.flatMap encR).length = l.length * 6
  | [] => rfl
  | x :: l => by
    rw [List.flatMap_cons, List.length_append, flatR_len l, List.length_cons, Nat.succ_mul, Nat.add_comm]
    rfl
theorem RowO.holdsK {w : World} {B n cap g off : Nat} {rs : List Rp} (h : RowO w B 95 6 (.slice (some ⟨g, off, none⟩) n cap) n (rs.flatMap encR)) (hn : n = rs.length) (h0 : 0 < n) : HoldsK encR 6 w g off rs.toArray := by
  obtain ⟨g', off', e, _, ⟨cur, hc⟩, hcell⟩ := h.cell h0
  injection e with e
  injection e with e1 e2
  subst e1 e2
  intro j hj
  have hj' : j < n * 6 := by rw [hn]; simpa using hj
  refine ⟨?_, free_of hc _⟩
  rw [hcell j hj', ← flatK_get rs j (by rw [← hn]; exact hj')]
  rfl
theorem swk_touch {w0 W : World} {blk off : Nat} {dk : Array Rp} (h : SWK encR 6 w0 blk off dk W) : Touch w0 W (· = blk) := by
  obtain ⟨n, os, rfl⟩ := h
  refine ⟨rfl, rfl, rfl, ?_, fun k hk hn => ?_⟩
  · simp [sortWorldK, putRowK]
  · unfold sortWorldK putRowK grow putRow mapBlock
    simp only
    rw [Array.getElem?_append_left (by simpa using hk), Array.getElem?_modify, if_neg (fun e => hn e.symm)]
    rfl
theorem swk_block {w0 W : World} {blk off : Nat} {dk : Array Rp} {cur : Array Value} {ty : TypeId} (h : SWK encR 6 w0 blk off dk W) (hb : w0.heap[blk]? = some (.cells cur ty (0, 0))) : ∃ cur', W.heap[blk]? = some (.cells cur' ty (0, 0)) ∧ cur'.size = cur.size := by
  obtain ⟨n, os, rfl⟩ := h
  unfold sortWorldK putRowK grow putRow mapBlock
  simp only
  rw [Array.getElem?_append_left (by simpa using blt hb), Array.getElem?_modify, if_pos rfl]
  have : (Go.Sort.ahead w0 n).heap[blk]? = some (Obj.cells cur ty (0, 0)) := hb
  rw [this]
  exact ⟨_, rfl, by simp [putCells]⟩
theorem RowO.oblk {w : World} {B e sz n cap g off : Nat} {xs : List Value} (h : RowO w B e sz (.slice (some ⟨g, off, none⟩) n cap) n xs) (h0 : 0 < n) : oblock (.slice (some ⟨g, off, none⟩) n cap) = some g := by
  rcases h.2 with ⟨_, _, h1⟩ | ⟨g', off', cap', cur, hv, hb, hh, h1, h2, h3, h5, h4⟩
  · omega
  · injection hv with e1 e2 e3
    subst e3
    obtain ⟨c, rfl⟩ : ∃ c, cap = c + 1 := ⟨cap - 1, by omega⟩
    rfl
/-- Behind the sort. -/
theorem RowO.sorted {w W : World} {B n cap g off : Nat} {rs : List Rp} {dk : Array Rp} (h : RowO w B 95 6 (.slice (some ⟨g, off, none⟩) n cap) n (rs.flatMap encR)) (hn : n = rs.length) (h0 : 0 < n) (hS : SWK encR 6 w g off dk W) (hd : dk.size = n) : RowO W B 95 6 (.slice (some ⟨g, off, none⟩) n cap) n (dk.toList.flatMap encR) := by
  have hH := h.holdsK hn h0
  rcases h.2 with ⟨_, _, h1⟩ | ⟨g', off', cap', cur, hv, hb, hh, h1, h2, h3, h5, h4⟩
  · omega
  · injection hv with e1 e2 e3
    injection e1 with e1
    injection e1 with e1 e4
    subst e1 e3 e4
    obtain ⟨cur', hc', hs'⟩ := swk_block hS hh
    have hHW := hS.holds (blt hh) hH (by simp [hd, hn])
    refine ⟨?_, .inr ⟨g, off, cap, cur', rfl, hb, hc', h1, h2, h3, by omega, fun j hj => ?_⟩⟩
    · rw [flatR_len, Array.length_toList, hd]
    · have hx := (hHW j (by simpa [hd] using hj)).1
      rw [cell_of hc'] at hx
      rw [hx]
      have := flatK_get dk.toList j (by simpa [hd] using hj)
      rw [← this]
      rfl
end Go.Proofs.Ytkdnkjjnmadhgaa.Dev
/-! A bus: which device; a request is handed in. -/
namespace Go.Proofs.Ytkdnkjjnmadhgaa.Dev
open Go.RowKit Go.Maps Go.Lib Go.Shelf Go.Sort

theorem infoA95 : (Try.prog.info? 95).map (fun i => (i.zero, i.size, i.bytes)) = some (some (.agg #[.int .i64 0, .int .i64 0, .int .i64 0, .slice none 0 0, .int .i64 0, .int .i64 0]), 6, 64) := by kernel_rfl
def withDev (dev : Int) (x : Rp) : Rp := { x with dev := dev }
/-- Behind j replies. -/
def SendL (B b g : Nat) (cur : Array Value) (m : BM) (l : List Rp) (at_ dev : Int) (w2 wr : World) (j : Nat) : Prop :=
  ∃ vr, BRep B wr b { m with now := at_, vr := vr, rs := m.rs ++ (l.take j).map (withDev dev) } ∧ wr.heap[g]? = some (.cells cur 95 (0, 0)) ∧ Touch w2 wr (fun k => k = b ∨ oblock (slv m.vr) = some k) ∧ (oblock (slv vr) = oblock (slv m.vr) ∨ ∃ h, oblock (slv vr) = some h ∧ w2.heap.size ≤ h)
theorem flatR_get (l : List Rp) {n : Nat} {x : Rp} (h : l[n]? = some x) {j : Nat} (hj : j < 6) : (l.flatMap encR)[n * 6 + j]? = (encR x)[j]? := flat_get encR 6 (fun _ => rfl) l n x h j hj

/-- What a device gives: its replies, in a row that is new. -/
structure Gave (w w' : World) (v : Value) (l : List Rp) : Prop where
  row : ∃ g c cur, v = .slice (some ⟨g, 0, none⟩) l.length c ∧ w.heap.size ≤ g ∧ w'.heap[g]? = some (.cells cur 95 (0, 0)) ∧ ∀ (n : Nat) (x : Rp), l[n]? = some x → ∀ j, j < 6 → cur[n * 6 + j]? = (encR x)[j]?
theorem Gave.of_one {w w' : World} {g : Nat} {l : List Rp} (hg : w.heap.size ≤ g) (hc : w'.heap[g]? = some (.cells (l.flatMap encR).toArray 95 (0, 0))) : Gave w w' (.slice (some ⟨g, 0, none⟩) l.length l.length) l :=
  ⟨g, _, _, rfl, hg, hc, fun n x hx j hj => by rw [List.getElem?_toArray]; exact flatR_get l hx hj⟩
theorem Gave.of_own {w w' : World} {v : Value} {l : List Rp} (h : w'.ownsRow w.heap.size 95 6 v l.length (l.flatMap encR)) (h0 : 0 < l.length) : Gave w w' v l := by
  rcases h.2 with ⟨_, h1⟩ | ⟨g, cap, cur, rfl, hb, hg, h1, h2, h3, h4⟩
  · omega
  · refine ⟨g, cap, cur, rfl, hb, hg, fun n x hx j hj => ?_⟩
    have hn := (List.getElem?_eq_some_iff.1 hx).1
    have hk : n * 6 + j < l.length * 6 := by omega
    have h5 : cur[n * 6 + j]? = (l.flatMap encR)[n * 6 + j]? := by
      rw [← h4, List.getElem?_take_of_lt hk, Array.getElem?_toList]
    rw [h5]
    exact flatR_get l hx hj

/-- What a bus is behind a request that was handed in. -/
structure Handed (m m' : BM) (at_ dev : Int) (l : List Rp) (w1 : World) : Prop where
  vd : m'.vd = m.vd
  ds : m'.ds = m.ds
  now : m'.now = at_
  sent : m'.sent = m.sent + 1
  told : m'.told = m.told
  vr : oblock (slv m'.vr) = oblock (slv m.vr) ∨ ∃ h, oblock (slv m'.vr) = some h ∧ w1.heap.size ≤ h
  sorted : ∃ dk : Array Rp, m'.rs = dk.toList ∧ Mg (ltOf cmpR) 0 dk.size (m.rs ++ l.map (withDev dev)).toArray dk
/-- The end: the number of requests goes on, the replies are sorted. -/
theorem hand_end {B b : Nat} {m : BM} {l : List Rp} {at_ dev : Int} {w2 wr w10 : World} {g off n cap : Nat} {rs : List Rp} {dk : Array Rp}
    (hr : BRep B wr b { m with now := at_, vr := (some ⟨g, off, none⟩, n, cap), rs := rs }) (hrs : rs = m.rs ++ l.map (withDev dev)) (hn : n = rs.length) (h0 : 0 < n)
    (htr : Touch w2 wr (fun k => k = b ∨ oblock (slv m.vr) = some k)) (hv : oblock (slv (some ⟨g, off, none⟩, n, cap)) = oblock (slv m.vr) ∨ ∃ h, oblock (slv (some ⟨g, off, none⟩, n, cap)) = some h ∧ w2.heap.size ≤ h)
    (hM : Mg (ltOf cmpR) 0 n rs.toArray dk) (hS : Go.Proofs.SWK encR 6 (wr.setCell ⟨b, 2, none⟩ (.int .i64 (m.sent + 1))) g off dk w10) :
    Touch w2 w10 (fun k => k = b ∨ oblock (slv m.vr) = some k) ∧ ∃ m', BRep B w10 b m' ∧ Handed m m' at_ dev l w2 := by
  have ho : oblock (slv (some ⟨g, off, none⟩, n, cap)) = some g := RowO.oblk (w := wr) (B := B) (e := 95) (sz := 6) (xs := rs.flatMap encR) (by rw [hn]; rw [hn] at hr; exact hr.rr) h0
  have hgb : g ≠ b := fun e => hr.vr_ne (by rw [← e]; exact ho)
  have hds : dk.size = n := by have := hM.perm.1; rw [hn]; simpa using this
  have hr9 : BRep B (wr.setCell ⟨b, 2, none⟩ (.int .i64 (m.sent + 1))) b { m with now := at_, sent := m.sent + 1, vr := (some ⟨g, off, none⟩, n, cap), rs := rs } := by
    refine hr.set at_ (m.sent + 1) m.told ?_ (fun k hl hd _ => Below.heap_setCell wr _ _ _ hd)
    have := set_same hr.cells 2 (.int .i64 (m.sent + 1))
    simpa using this
  have ht := swk_touch hS
  have hrow : RowO (wr.setCell ⟨b, 2, none⟩ (.int .i64 (m.sent + 1))) B 95 6 (.slice (some ⟨g, off, none⟩) n cap) n (rs.flatMap encR) := by rw [hn]; rw [hn] at hr9; exact hr9.rr
  refine ⟨(htr.trans (Touch.setCell wr ⟨b, 2, none⟩ _ (.inl rfl))).andThen ht (fun k hk e => ?_), { m with now := at_, sent := m.sent + 1, vr := (some ⟨g, off, none⟩, n, cap), rs := dk.toList }, ⟨hr9.low, ?_, ?_, ?_⟩, ⟨rfl, rfl, rfl, rfl, rfl, hv, dk, rfl, ?_⟩⟩
  · rcases hv with e' | ⟨h, e', hh⟩
    · rw [ho] at e'
      exact .inr (by rw [← e', e])
    · rw [ho] at e'
      simp at e'
      omega
  · exact (ht.block b (blt hr9.cells) (fun e => hgb e.symm)).trans hr9.cells
  · refine own_keep hr9.rd fun k hk hl => ht.block k hl fun e => ?_
    subst e
    obtain ⟨_, cur, hh⟩ := hr9.rr.block ho
    exact own_ty hr9.rd hh (by decide) hk
  · have := hrow.sorted hn h0 hS hds
    show RowO w10 B 95 6 (.slice (some ⟨g, off, none⟩) n cap) dk.toList.length (dk.toList.flatMap encR)
    rw [Array.length_toList, hds]
    exact this
  · rw [hds, ← hrs]
    exact hM

theorem SendL.next {B b g : Nat} {cur : Array Value} {m : BM} {l : List Rp} {at_ dev : Int} {w2 W5 w7 : World} {j : Nat} {vr sv : Sl} {rs : List Rp} {x : Rp}
    (hR5 : BRep B W5 b { m with now := at_, vr := vr, rs := rs }) (hrs : rs = m.rs ++ (l.take j).map (withDev dev)) (hg5 : W5.heap[g]? = some (.cells cur 95 (0, 0))) (ht5 : Touch w2 W5 (fun k => k = b ∨ oblock (slv m.vr) = some k))
    (hv : oblock (slv vr) = oblock (slv m.vr) ∨ ∃ h, oblock (slv vr) = some h ∧ w2.heap.size ≤ h) (hx : l[j]? = some x) (hgm : oblock (slv m.vr) ≠ some g) (hg2 : g < w2.heap.size)
    (hrow : RowO w7 B 95 6 (slv sv) (rs.length + 1) (rs.flatMap encR ++ encR (withDev dev x))) (ht7 : Touch W5 w7 (fun k => oblock (slv vr) = some k))
    (hloc : oblock (slv sv) = oblock (slv vr) ∨ ∃ h, oblock (slv sv) = some h ∧ W5.heap.size ≤ h) :
    SendL B b g cur m l at_ dev w2 (w7.setCell ⟨b, 4, none⟩ (slv sv)) (j + 1) := by
  have hnb := hR5.vr_ne
  have hb7 := (ht7.block b (blt hR5.cells) hnb).trans hR5.cells
  have hgb : g ≠ b := fun e => by
    subst e
    rw [hR5.cells] at hg5
    simp at hg5
  have hgv : oblock (slv vr) ≠ some g := by
    rcases hv with e | ⟨h, e, hh⟩
    · rw [e]; exact hgm
    · rw [e]
      simp
      omega
  have hsb : oblock (slv sv) ≠ some b := fun e => by
    obtain ⟨_, cur, hh⟩ := hrow.block e
    rw [hb7] at hh
    simp at hh
  refine ⟨sv, ⟨hR5.low, ?_, ?_, ?_⟩, ?_, ?_, ?_⟩
  · have := set_same hb7 4 (slv sv)
    simpa using this
  · refine own_keep hR5.rd fun k hk hl => ?_
    have hkb : k ≠ b := fun e => by
      subst e
      exact own_ty hR5.rd hR5.cells (by decide) hk
    refine (Below.heap_setCell w7 _ _ _ hkb).trans (ht7.block k hl fun e => ?_)
    obtain ⟨_, cur, hh⟩ := hR5.rr.block e
    exact own_ty hR5.rd hh (by decide) hk
  · have e1 : (m.rs ++ (l.take (j + 1)).map (withDev dev)) = rs ++ [withDev dev x] := by
      have hj := (List.getElem?_eq_some_iff.1 hx).1
      have hxx : l[j] = x := (List.getElem?_eq_some_iff.1 hx).2
      rw [hrs, List.take_succ_eq_append_getElem hj, hxx, List.map_append, List.append_assoc]
      rfl
    show RowO _ B 95 6 (slv sv) (m.rs ++ (l.take (j + 1)).map (withDev dev)).length ((m.rs ++ (l.take (j + 1)).map (withDev dev)).flatMap encR)
    rw [e1]
    simp only [List.length_append, List.length_singleton, List.flatMap_append, List.flatMap_singleton]
    exact hrow.keep fun k hk _ => Below.heap_setCell w7 _ _ _ (fun e => hsb (by have e : k = b := e; rw [← e]; exact hk))
  · exact (Below.heap_setCell w7 _ _ _ hgb).trans ((ht7.block g (blt hg5) hgv).trans hg5)
  · refine (ht5.andThen ht7 fun k hk e => ?_).trans (Touch.setCell w7 ⟨b, 4, none⟩ _ (.inl rfl))
    rcases hv with e' | ⟨h, e', hh⟩
    · exact .inr (e' ▸ e)
    · rw [e'] at e
      simp at e
      omega
  · rcases hloc with e | ⟨h, e, hh⟩
    · rw [e]; exact hv
    · exact .inr ⟨h, e, Nat.le_trans ht5.size hh⟩

end Go.Proofs.Ytkdnkjjnmadhgaa.Dev
