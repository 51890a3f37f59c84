import Derived.Test.YtkdnkjjnmadhgaaDG
import Derived.Test.YtkdnkjjnmadhgaaDE
/-! Rows of replies, sorted. -/
namespace Go.Proofs.Ytkdnkjjnmadhgaa.Dev
open Go.Shelf Go.RowKit Go.Lib Go.Sort Go.Proofs

theorem flatK_get (rs : List Rp) (t : Nat) (ht : t < rs.length * 6) : some ((flatK encR 6 rs.toArray)[t]!) = (rs.flatMap encR)[t]? := by
  have h1 : t / 6 < rs.length := by omega
  rw [get_flatK encR 6 rs.toArray t (by simpa using ht)]
  have h2 := flat_get encR 6 (fun _ => rfl) rs (t / 6) rs[t / 6] (List.getElem?_eq_getElem h1) (t % 6) (by omega)
  rw [show t / 6 * 6 + t % 6 = t by omega] at h2
  rw [h2]
  have h3 : rs.toArray[t / 6]! = rs[t / 6] := by simp [h1]
  rw [h3, List.getElem!_eq_getElem?_getD]
  have h4 : t % 6 < (encR rs[t / 6]).length := by show t % 6 < 6; omega
  rw [List.getElem?_eq_getElem h4]
  rfl
theorem flatR_len : ∀ l : List Rp, (l.flatMap encR).length = l.length * 6
  | [] => rfl
  | x :: l => by
    rw [List.flatMap_cons, List.length_append, flatR_len l, List.length_cons, Nat.succ_mul, Nat.add_comm]
    rfl
theorem RowO.holdsK {w : World} {B n cap g off : Nat} {rs : List Rp} (h : RowO w B 95 6 (.slice (some ⟨g, off, none⟩) n cap) n (rs.flatMap encR)) (hn : n = rs.length) (h0 : 0 < n) : HoldsK encR 6 w g off rs.toArray := by
  obtain ⟨g', off', e, _, ⟨cur, hc⟩, hcell⟩ := h.cell h0
  injection e with e
  injection e with e1 e2
  subst e1 e2
  intro j hj
  have hj' : j < n * 6 := by rw [hn]; simpa using hj
  refine ⟨?_, free_of hc _⟩
  rw [hcell j hj', ← flatK_get rs j (by rw [← hn]; exact hj')]
  rfl
theorem swk_touch {w0 W : World} {blk off : Nat} {dk : Array Rp} (h : SWK encR 6 w0 blk off dk W) : Touch w0 W (· = blk) := by
  obtain ⟨n, os, rfl⟩ := h
  refine ⟨rfl, rfl, rfl, ?_, fun k hk hn => ?_⟩
  · simp [sortWorldK, putRowK]
  · unfold sortWorldK putRowK grow putRow mapBlock
    simp only
    rw [Array.getElem?_append_left (by simpa using hk), Array.getElem?_modify, if_neg (fun e => hn e.symm)]
    rfl
theorem swk_block {w0 W : World} {blk off : Nat} {dk : Array Rp} {cur : Array Value} {ty : TypeId} (h : SWK encR 6 w0 blk off dk W) (hb : w0.heap[blk]? = some (.cells cur ty (0, 0))) : ∃ cur', W.heap[blk]? = some (.cells cur' ty (0, 0)) ∧ cur'.size = cur.size := by
  obtain ⟨n, os, rfl⟩ := h
  unfold sortWorldK putRowK grow putRow mapBlock
  simp only
  rw [Array.getElem?_append_left (by simpa using blt hb), Array.getElem?_modify, if_pos rfl]
  have : (Go.Sort.ahead w0 n).heap[blk]? = some (Obj.cells cur ty (0, 0)) := hb
  rw [this]
  exact ⟨_, rfl, by simp [putCells]⟩
theorem RowO.oblk {w : World} {B e sz n cap g off : Nat} {xs : List Value} (h : RowO w B e sz (.slice (some ⟨g, off, none⟩) n cap) n xs) (h0 : 0 < n) : oblock (.slice (some ⟨g, off, none⟩) n cap) = some g := by
  rcases h.2 with ⟨_, _, h1⟩ | ⟨g', off', cap', cur, hv, hb, hh, h1, h2, h3, h5, h4⟩
  · omega
  · injection hv with e1 e2 e3
    subst e3
    obtain ⟨c, rfl⟩ : ∃ c, cap = c + 1 := ⟨cap - 1, by omega⟩
    rfl
/-- Behind the sort. -/
theorem RowO.sorted {w W : World} {B n cap g off : Nat} {rs : List Rp} {dk : Array Rp} (h : RowO w B 95 6 (.slice (some ⟨g, off, none⟩) n cap) n (rs.flatMap encR)) (hn : n = rs.length) (h0 : 0 < n) (hS : SWK encR 6 w g off dk W) (hd : dk.size = n) : RowO W B 95 6 (.slice (some ⟨g, off, none⟩) n cap) n (dk.toList.flatMap encR) := by
  have hH := h.holdsK hn h0
  rcases h.2 with ⟨_, _, h1⟩ | ⟨g', off', cap', cur, hv, hb, hh, h1, h2, h3, h5, h4⟩
  · omega
  · injection hv with e1 e2 e3
    injection e1 with e1
    injection e1 with e1 e4
    subst e1 e3 e4
    obtain ⟨cur', hc', hs'⟩ := swk_block hS hh
    have hHW := hS.holds (blt hh) hH (by simp [hd, hn])
    refine ⟨?_, .inr ⟨g, off, cap, cur', rfl, hb, hc', h1, h2, h3, by omega, fun j hj => ?_⟩⟩
    · rw [flatR_len, Array.length_toList, hd]
    · have hx := (hHW j (by simpa [hd] using hj)).1
      rw [cell_of hc'] at hx
      rw [hx]
      have := flatK_get dk.toList j (by simpa [hd] using hj)
      rw [← this]
      rfl
end Go.Proofs.Ytkdnkjjnmadhgaa.Dev
