import Derived.Test.YtkmgbnklfnjfjaaRH
/-! The specification's kernel: send, next, await, interrupt. -/
namespace Go.Proofs.Ytkmgbnklfnjfjaa.Ker
open Go.RowKit Go.Maps

theorem LeftR.still {B xb : Nat} {h : RG} {a : A} {w w' : World} (r : RRep B xb h a w) (v : Value) (hb : Below w.heap.size w w') : LeftR B xb h a w v a (.returned v) w' := ⟨rfl, h, Left.refl r hb⟩
set_option maxHeartbeats 2000000 in
set_option maxRecDepth 100000 in
theorem rsend_none (B xb : Nat) (h : RG) (a : A) (w : World) (r : RRep B xb h a w) (gd : Good a) (g2 : Good2 a) (own x y : Int) (hx : x ∉ a.pids) :
    Calls Try.prog 59 #[ptr xb, .int .i64 own, .int .i64 x, .int .i64 y] w (LeftR B xb h a w (.int .i64 191) a) := by
  have C64 := rthere B xb h a w r gd g2 x
  rw [decide_eq_false hx] at C64
  have C64h := Lib.hid C64
  have R := Lib.hid r
  clear C64 r gd g2 hx
  go_enter Try.func59, Try.ntmps59
  go_wp2_with (go_at_call 64; (with_reducible refine C64h.out.mono ?_); rintro e w' ⟨rfl, rfl⟩)
  go_ret
  exact LeftR.still R.out _ (Below.refl _ _)
set_option maxHeartbeats 2000000 in
set_option maxRecDepth 100000 in
theorem rsend_other (B xb : Nat) (h : RG) (a : A) (w : World) (r : RRep B xb h a w) (gd : Good a) (g2 : Good2 a) (own x y : Int) (hx : x ∈ a.pids) (hw : (a.pk x).wth ≠ own) :
    Calls Try.prog 59 #[ptr xb, .int .i64 own, .int .i64 x, .int .i64 y] w (LeftR B xb h a w (.int .i64 191) a) := by
  have hr := gd.pkr x hx
  have hmade := gd.made
  have hN := made_len gd
  have C64 := rthere B xb h a w r gd g2 x
  rw [decide_eq_true hx] at C64
  obtain ⟨n, rfl⟩ : ∃ n : Nat, x = (n : Int) + 1 := ⟨(x - 1).toNat, by omega⟩
  obtain ⟨g, pc, hpv, ⟨pcur, hpb⟩, hc⟩ := r.pcells gd (n := n) (by omega)
  have k1 := r.k1
  rw [hpv] at k1
  have hnl : n < (pnums a.made).length := by omega
  have hn200 : n ≤ 200 := by omega
  have q4 : w.cell? ⟨g, n * 7 + 4, none⟩ = some (.int .i64 (a.pk ((n : Int) + 1)).at_) := by have := hc 4 (by omega); simp only [rpc, rpk_in hx] at this; exact this
  have q5 : w.cell? ⟨g, n * 7 + 5, none⟩ = some (.int .i64 (a.pk ((n : Int) + 1)).frm) := by have := hc 5 (by omega); simp only [rpc, rpk_in hx] at this; exact this
  have q6 : w.cell? ⟨g, n * 7 + 6, none⟩ = some (.int .i64 (a.pk ((n : Int) + 1)).wth) := by have := hc 6 (by omega); simp only [rpc, rpk_in hx] at this; exact this
  have C64h := Lib.hid C64
  have R := Lib.hid r
  have hw2 : ((a.pk ((n : Int) + 1)).wth != own) = true := by simp [hw]
  by_cases ha : (a.pk ((n : Int) + 1)).at_ = 0
  · have ha2 : ((a.pk ((n : Int) + 1)).at_ != 0) = false := by simp [ha]
    clear r gd g2 hx hc hpv hpb hr hmade hN C64 ha hw
    go_enter Try.func59, Try.ntmps59
    go_wp2_with (go_at_call 64; (with_reducible refine C64h.out.mono ?_); rintro e w' ⟨rfl, rfl⟩)
    go_ret
    exact LeftR.still R.out _ (Below.refl _ _)
  · have ha2 : ((a.pk ((n : Int) + 1)).at_ != 0) = true := by simp [ha]
    clear r gd g2 hx hc hpv hpb hr hmade hN C64 ha hw
    go_enter Try.func59, Try.ntmps59
    go_wp2_with (go_at_call 64; (with_reducible refine C64h.out.mono ?_); rintro e w' ⟨rfl, rfl⟩)
    go_ret
    exact LeftR.still R.out _ (Below.refl _ _)
set_option maxHeartbeats 2000000 in
set_option maxRecDepth 100000 in
theorem rsend_self (B xb : Nat) (h : RG) (a : A) (w : World) (r : RRep B xb h a w) (gd : Good a) (g2 : Good2 a) (own x y : Int) (hx : x ∈ a.pids) (hw : (a.pk x).wth = own) (ha : (a.pk x).at_ = 0) (hy : y = own) :
    Calls Try.prog 59 #[ptr xb, .int .i64 own, .int .i64 x, .int .i64 y] w (LeftR B xb h a w (.int .i64 190) a) := by
  have hr := gd.pkr x hx
  have hmade := gd.made
  have hN := made_len gd
  have C64 := rthere B xb h a w r gd g2 x
  rw [decide_eq_true hx] at C64
  obtain ⟨n, rfl⟩ : ∃ n : Nat, x = (n : Int) + 1 := ⟨(x - 1).toNat, by omega⟩
  obtain ⟨g, pc, hpv, ⟨pcur, hpb⟩, hc⟩ := r.pcells gd (n := n) (by omega)
  have k1 := r.k1
  rw [hpv] at k1
  have hnl : n < (pnums a.made).length := by omega
  have hn200 : n ≤ 200 := by omega
  have q4 : w.cell? ⟨g, n * 7 + 4, none⟩ = some (.int .i64 (a.pk ((n : Int) + 1)).at_) := by have := hc 4 (by omega); simp only [rpc, rpk_in hx] at this; exact this
  have q5 : w.cell? ⟨g, n * 7 + 5, none⟩ = some (.int .i64 (a.pk ((n : Int) + 1)).frm) := by have := hc 5 (by omega); simp only [rpc, rpk_in hx] at this; exact this
  have q6 : w.cell? ⟨g, n * 7 + 6, none⟩ = some (.int .i64 (a.pk ((n : Int) + 1)).wth) := by have := hc 6 (by omega); simp only [rpc, rpk_in hx] at this; exact this
  have C64h := Lib.hid C64
  have R := Lib.hid r
  have hw2 : ((a.pk ((n : Int) + 1)).wth != own) = false := by simp [hw]
  have ha2 : ((a.pk ((n : Int) + 1)).at_ != 0) = false := by simp [ha]
  have hy2 : (y == own) = true := by simp [hy]
  clear r gd g2 hx hc hpv hpb hr hmade hN C64 ha hw hy
  go_enter Try.func59, Try.ntmps59
  go_wp2_with (go_at_call 64; (with_reducible refine C64h.out.mono ?_); rintro e w' ⟨rfl, rfl⟩)
  go_ret
  exact LeftR.still R.out _ (Below.refl _ _)
set_option maxHeartbeats 2000000 in
set_option maxRecDepth 100000 in
theorem rsend_nobody (B xb : Nat) (h : RG) (a : A) (w : World) (r : RRep B xb h a w) (gd : Good a) (g2 : Good2 a) (own x y : Int) (hx : x ∈ a.pids) (hw : (a.pk x).wth = own) (ha : (a.pk x).at_ = 0) (hy : y ≠ own) (hn : ¬ a.owner y) :
    Calls Try.prog 59 #[ptr xb, .int .i64 own, .int .i64 x, .int .i64 y] w (LeftR B xb h a w (.int .i64 190) a) := by
  have hr := gd.pkr x hx
  have hmade := gd.made
  have hN := made_len gd
  have C64 := rthere B xb h a w r gd g2 x
  rw [decide_eq_true hx] at C64
  obtain ⟨n, rfl⟩ : ∃ n : Nat, x = (n : Int) + 1 := ⟨(x - 1).toNat, by omega⟩
  obtain ⟨g, pc, hpv, ⟨pcur, hpb⟩, hc⟩ := r.pcells gd (n := n) (by omega)
  have k1 := r.k1
  rw [hpv] at k1
  have hnl : n < (pnums a.made).length := by omega
  have hn200 : n ≤ 200 := by omega
  have q4 : w.cell? ⟨g, n * 7 + 4, none⟩ = some (.int .i64 (a.pk ((n : Int) + 1)).at_) := by have := hc 4 (by omega); simp only [rpc, rpk_in hx] at this; exact this
  have q5 : w.cell? ⟨g, n * 7 + 5, none⟩ = some (.int .i64 (a.pk ((n : Int) + 1)).frm) := by have := hc 5 (by omega); simp only [rpc, rpk_in hx] at this; exact this
  have q6 : w.cell? ⟨g, n * 7 + 6, none⟩ = some (.int .i64 (a.pk ((n : Int) + 1)).wth) := by have := hc 6 (by omega); simp only [rpc, rpk_in hx] at this; exact this
  have C64h := Lib.hid C64
  have R := Lib.hid r
  have C67 := rdevice w y
  rw [decide_eq_false (fun hh => hn (.inr hh))] at C67
  have C67h := Lib.hid C67
  have hlt := nodup_bound 20 a.tids gd.tnd (fun x hx => gd.trng x hx)
  have C62 := rfind B xb h a w r gd.tnd (by omega) y
  rw [posF_out (fun hh => hn (.inl hh))] at C62
  have C62h := Lib.hid C62
  have hw2 : ((a.pk ((n : Int) + 1)).wth != own) = false := by simp [hw]
  have ha2 : ((a.pk ((n : Int) + 1)).at_ != 0) = false := by simp [ha]
  have hy2 : (y == own) = false := by simp [hy]
  clear r gd g2 hx hc hpv hpb hr hmade hN C64 ha hw hy hn C67 C62
  go_enter Try.func59, Try.ntmps59
  go_wp2_with (first | (go_at_call 64; (with_reducible refine C64h.out.mono ?_); rintro e w' ⟨rfl, rfl⟩) | (go_at_call 67; (with_reducible refine C67h.out.mono ?_); rintro e w' ⟨rfl, rfl⟩) | (go_at_call 62; (with_reducible refine C62h.out.mono ?_); rintro e w' ⟨rfl, rfl⟩))
  go_ret
  exact LeftR.still R.out _ (Below.refl _ _)
set_option maxHeartbeats 2000000 in
set_option maxRecDepth 100000 in
theorem rsend_task (B xb : Nat) (h : RG) (a : A) (w : World) (r : RRep B xb h a w) (gd : Good a) (g2 : Good2 a) (own x y : Int) (hx : x ∈ a.pids) (hw : (a.pk x).wth = own) (ha : (a.pk x).at_ = 0) (hy : y ≠ own) (hyt : y ∈ a.tids) (hm : a.moves.length ≤ 100000) :
    Calls Try.prog 59 #[ptr xb, .int .i64 own, .int .i64 x, .int .i64 y] w (LeftR B xb h a w (.int .i64 0) (moveR a x own y)) := by
  have C88 := renq B xb h a w r gd x own y hx (.inl hyt) hm
  have hr := gd.pkr x hx
  have hmade := gd.made
  have hN := made_len gd
  have C64 := rthere B xb h a w r gd g2 x
  rw [decide_eq_true hx] at C64
  obtain ⟨n, rfl⟩ : ∃ n : Nat, x = (n : Int) + 1 := ⟨(x - 1).toNat, by omega⟩
  obtain ⟨g, pc, hpv, ⟨pcur, hpb⟩, hc⟩ := r.pcells gd (n := n) (by omega)
  have k1 := r.k1
  rw [hpv] at k1
  have hnl : n < (pnums a.made).length := by omega
  have hn200 : n ≤ 200 := by omega
  have q4 : w.cell? ⟨g, n * 7 + 4, none⟩ = some (.int .i64 (a.pk ((n : Int) + 1)).at_) := by have := hc 4 (by omega); simp only [rpc, rpk_in hx] at this; exact this
  have q5 : w.cell? ⟨g, n * 7 + 5, none⟩ = some (.int .i64 (a.pk ((n : Int) + 1)).frm) := by have := hc 5 (by omega); simp only [rpc, rpk_in hx] at this; exact this
  have q6 : w.cell? ⟨g, n * 7 + 6, none⟩ = some (.int .i64 (a.pk ((n : Int) + 1)).wth) := by have := hc 6 (by omega); simp only [rpc, rpk_in hx] at this; exact this
  have C64h := Lib.hid C64
  have C88h := Lib.hid C88
  have C67 := rdevice w y
  rw [decide_eq_false (fun hh => by rw [devs_iff] at hh; have := gd.trng y hyt; omega)] at C67
  have C67h := Lib.hid C67
  have hlt := nodup_bound 20 a.tids gd.tnd (fun x hx => gd.trng x hx)
  have C62 := rfind B xb h a w r gd.tnd (by omega) y
  obtain ⟨m, hm1, hm2, hm3⟩ := posF_in hyt
  rw [hm1] at C62
  have C62h := Lib.hid C62
  clear C62 hm1 hm2
  have hw2 : ((a.pk ((n : Int) + 1)).wth != own) = false := by simp [hw]
  have ha2 : ((a.pk ((n : Int) + 1)).at_ != 0) = false := by simp [ha]
  have hy2 : (y == own) = false := by simp [hy]
  clear r gd g2 hx hc hpv hpb hr hmade hN C64 ha hw hy hyt C67 C88
  go_enter Try.func59, Try.ntmps59
  go_wp2_with (first | (go_at_call 64; (with_reducible refine C64h.out.mono ?_); rintro e w' ⟨rfl, rfl⟩) | (go_at_call 67; (with_reducible refine C67h.out.mono ?_); rintro e w' ⟨rfl, rfl⟩) | (go_at_call 62; (with_reducible refine C62h.out.mono ?_); rintro e w' ⟨rfl, rfl⟩) | (go_at_call 88; (with_reducible refine C88h.out.mono ?_); rintro e w' ⟨rfl, h2, hl2⟩; have HL := Lib.hid hl2; clear hl2))
  go_ret
  exact ⟨rfl, h2, HL.out⟩
set_option maxHeartbeats 2000000 in
set_option maxRecDepth 100000 in
theorem rsend_dev (B xb : Nat) (h : RG) (a : A) (w : World) (r : RRep B xb h a w) (gd : Good a) (g2 : Good2 a) (own x y : Int) (hx : x ∈ a.pids) (hw : (a.pk x).wth = own) (ha : (a.pk x).at_ = 0) (hy : y ≠ own) (hyt : y ∈ devs) (hm : a.moves.length ≤ 100000) :
    Calls Try.prog 59 #[ptr xb, .int .i64 own, .int .i64 x, .int .i64 y] w (LeftR B xb h a w (.int .i64 0) (moveR a x own y)) := by
  have C88 := renq B xb h a w r gd x own y hx (.inr hyt) hm
  have hr := gd.pkr x hx
  have hmade := gd.made
  have hN := made_len gd
  have C64 := rthere B xb h a w r gd g2 x
  rw [decide_eq_true hx] at C64
  obtain ⟨n, rfl⟩ : ∃ n : Nat, x = (n : Int) + 1 := ⟨(x - 1).toNat, by omega⟩
  obtain ⟨g, pc, hpv, ⟨pcur, hpb⟩, hc⟩ := r.pcells gd (n := n) (by omega)
  have k1 := r.k1
  rw [hpv] at k1
  have hnl : n < (pnums a.made).length := by omega
  have hn200 : n ≤ 200 := by omega
  have q4 : w.cell? ⟨g, n * 7 + 4, none⟩ = some (.int .i64 (a.pk ((n : Int) + 1)).at_) := by have := hc 4 (by omega); simp only [rpc, rpk_in hx] at this; exact this
  have q5 : w.cell? ⟨g, n * 7 + 5, none⟩ = some (.int .i64 (a.pk ((n : Int) + 1)).frm) := by have := hc 5 (by omega); simp only [rpc, rpk_in hx] at this; exact this
  have q6 : w.cell? ⟨g, n * 7 + 6, none⟩ = some (.int .i64 (a.pk ((n : Int) + 1)).wth) := by have := hc 6 (by omega); simp only [rpc, rpk_in hx] at this; exact this
  have C64h := Lib.hid C64
  have C88h := Lib.hid C88
  have C67 := rdevice w y
  rw [decide_eq_true hyt] at C67
  have C67h := Lib.hid C67
  have hw2 : ((a.pk ((n : Int) + 1)).wth != own) = false := by simp [hw]
  have ha2 : ((a.pk ((n : Int) + 1)).at_ != 0) = false := by simp [ha]
  have hy2 : (y == own) = false := by simp [hy]
  clear r gd g2 hx hc hpv hpb hr hmade hN C64 ha hw hy hyt C67 C88
  go_enter Try.func59, Try.ntmps59
  go_wp2_with (first | (go_at_call 64; (with_reducible refine C64h.out.mono ?_); rintro e w' ⟨rfl, rfl⟩) | (go_at_call 67; (with_reducible refine C67h.out.mono ?_); rintro e w' ⟨rfl, rfl⟩) | (go_at_call 88; (with_reducible refine C88h.out.mono ?_); rintro e w' ⟨rfl, h2, hl2⟩; have HL := Lib.hid hl2; clear hl2))
  go_ret
  exact ⟨rfl, h2, HL.out⟩
set_option maxHeartbeats 2000000 in
set_option maxRecDepth 100000 in
theorem rnext_none (B xb : Nat) (h : RG) (a : A) (w : World) (r : RRep B xb h a w) (gd : Good a) (g2 : Good2 a) (own : Int) (ho : own ∈ a.tids) (hq : a.q own = []) :
    Calls Try.prog 60 #[ptr xb, .int .i64 own] w (LeftR B xb h a w (.int .i64 0) (restA a own 0)) := by
  have hlt := nodup_bound 20 a.tids gd.tnd (fun x hx => gd.trng x hx)
  obtain ⟨m, hm1, hm2, hm3⟩ := posF_in ho
  have D62 := Lib.hid (show ∀ w', RRep B xb h a w' → Calls Try.prog 62 #[ptr xb, .int .i64 own] w' fun e w'' => e = .returned (.int .i64 m) ∧ w' = w'' from fun w' hr => by
    have := rfind B xb h a w' hr gd.tnd (by omega) own
    rw [hm1] at this
    exact this)
  obtain ⟨gt, ct, hv, ⟨tcur, htb⟩, hct⟩ := row_cells (f := rtc a h.qv) (sz := 7) (fun _ => rfl) r.trow hm2
  have k0 := r.k0
  rw [hv] at k0
  have t3 : w.cell? ⟨gt, m * 7 + 3, none⟩ = some (.bool (a.tk own).waiting) := hct 3 (by omega)
  have t4 : w.cell? ⟨gt, m * 7 + 4, none⟩ = some (.int .i64 (a.tk own).forr) := hct 4 (by omega)
  have t5 : w.cell? ⟨gt, m * 7 + 5, none⟩ = some (.int .i64 (a.tk own).flags) := hct 5 (by omega)
  have t6 : w.cell? ⟨gt, m * 7 + 6, none⟩ = some (h.qv own) := hct 6 (by omega)
  have tf : ∀ j, w.frozen? ⟨gt, j, none⟩ = false := fun j => free_of htb j
  have tf3 := tf (m * 7 + 3)
  have tf4 := tf (m * 7 + 4)
  have tf5 := tf (m * 7 + 5)
  have hm20 : m ≤ 20 := by omega
  have HTG := Lib.hid (show h.tv.ownBlock = some gt by rw [hv]; rfl)
  have HM2 := Lib.hid hm2
  obtain ⟨va, vc, hqv⟩ := own_form (r.row own (.inl ho))
  rw [hqv, hq] at t6
  have R := Lib.hid r
  have GD := Lib.hid gd
  clear r gd g2 ho hq hm1 hm2 hct hv htb hqv tf
  go_enter Try.func60, Try.ntmps60
  go_wp2_with fail
  go_quiet (((refine (D62.out _ ?_).mono ?_); (exact R.out.keep (fun _ _ => rfl)); (intro e w' h; exact ⟨h.1, _, h.2.symm⟩)))
  go_wp2_with fail
  go_ret
  have r1 := R.out.drewN nq
  have L3 := r1.setTk GD.out.tnd HM2.out HTG.out 3 (by omega) (.bool true) { a.tk own with waiting := true } (by simp [rtc, upd_same])
  have L4 := L3.rep.setTk (i := own) GD.out.tnd HM2.out HTG.out 4 (by omega) (.int .i64 0) { a.tk own with waiting := true, forr := 0 } (by simp [rtc, upd_same])
  have L := ((Left.refl R.out (below_drewN (Below.refl _ _) nq)).trans L3).trans L4
  simp only [upd_upd] at L
  exact ⟨rfl, _, L⟩
set_option maxHeartbeats 2000000 in
set_option maxRecDepth 100000 in
theorem rnext_some (B xb : Nat) (h : RG) (a : A) (w : World) (r : RRep B xb h a w) (gd : Good a) (g2 : Good2 a) (own : Int) (ho : own ∈ a.tids) (p : Int) (l : List Int) (hq : a.q own = p :: l) :
    Calls Try.prog 60 #[ptr xb, .int .i64 own] w (LeftR B xb h a w (.int .i64 p) (ownA a p own)) := by
  have hpq := gd.qin own (.inl ho) p (by rw [hq]; simp)
  have C65h := Lib.hid (fun q => rtake B xb h a (w.drewN q) (r.drewN q) gd p own hpq.1 (by rw [hpq.2]; exact .inl ho))
  have hlt := nodup_bound 20 a.tids gd.tnd (fun x hx => gd.trng x hx)
  obtain ⟨m, hm1, hm2, hm3⟩ := posF_in ho
  have D62 := Lib.hid (show ∀ w', RRep B xb h a w' → Calls Try.prog 62 #[ptr xb, .int .i64 own] w' fun e w'' => e = .returned (.int .i64 m) ∧ w' = w'' from fun w' hr => by
    have := rfind B xb h a w' hr gd.tnd (by omega) own
    rw [hm1] at this
    exact this)
  obtain ⟨gt, ct, hv, ⟨tcur, htb⟩, hct⟩ := row_cells (f := rtc a h.qv) (sz := 7) (fun _ => rfl) r.trow hm2
  have k0 := r.k0
  rw [hv] at k0
  have t3 : w.cell? ⟨gt, m * 7 + 3, none⟩ = some (.bool (a.tk own).waiting) := hct 3 (by omega)
  have t4 : w.cell? ⟨gt, m * 7 + 4, none⟩ = some (.int .i64 (a.tk own).forr) := hct 4 (by omega)
  have t5 : w.cell? ⟨gt, m * 7 + 5, none⟩ = some (.int .i64 (a.tk own).flags) := hct 5 (by omega)
  have t6 : w.cell? ⟨gt, m * 7 + 6, none⟩ = some (h.qv own) := hct 6 (by omega)
  have tf : ∀ j, w.frozen? ⟨gt, j, none⟩ = false := fun j => free_of htb j
  have tf3 := tf (m * 7 + 3)
  have tf4 := tf (m * 7 + 4)
  have tf5 := tf (m * 7 + 5)
  have hm20 : m ≤ 20 := by omega
  have HTG := Lib.hid (show h.tv.ownBlock = some gt by rw [hv]; rfl)
  have HM2 := Lib.hid hm2
  have hrow := r.row own (.inl ho)
  obtain ⟨gq, cq, hqv, _, _, _, cur, hqb, _, _, hqc⟩ := own_cell hrow (by rw [hq]; simp)
  have z0 : w.cell? ⟨gq, 0, none⟩ = some (.int .i64 p) := by
    have := hqc 0 (by rw [hq]; simp)
    rw [hq] at this
    simpa using this
  rw [hqv, hq] at t6
  have hql := gd.qlen (i := own) (.inl ho)
  rw [hq] at hql
  simp only [List.length_cons] at hql
  have R := Lib.hid r
  clear r gd g2 ho hq hm1 hm2 hct hv htb hqv tf hpq hrow hqb hqc
  go_enter Try.func60, Try.ntmps60
  go_wp2_with fail
  go_quiet (((refine (D62.out _ ?_).mono ?_); (exact R.out.keep (fun _ _ => rfl)); (intro e w' h; exact ⟨h.1, _, h.2.symm⟩)))
  go_wp2_with (go_at_call 65; (with_reducible refine (C65h.out nq).mono ?_); rintro e w' ⟨rfl, h2, hl2⟩; have HL := Lib.hid hl2; clear hl2)
  go_ret
  exact ⟨rfl, h2, (Left.refl R.out (below_drewN (Below.refl _ _) nq)).trans HL.out⟩
set_option maxHeartbeats 2000000 in
set_option maxRecDepth 100000 in
theorem rawait_none (B xb : Nat) (h : RG) (a : A) (w : World) (r : RRep B xb h a w) (gd : Good a) (g2 : Good2 a) (own x : Int) (hx : x ∉ a.pids) :
    Calls Try.prog 66 #[ptr xb, .int .i64 own, .int .i64 x] w (LeftR B xb h a w (.tuple #[.int .i64 0, .int .i64 191]) a) := by
  have C64 := rthere B xb h a w r gd g2 x
  rw [decide_eq_false hx] at C64
  have C64h := Lib.hid C64
  have R := Lib.hid r
  clear C64 r gd g2 hx
  go_enter Try.func66, Try.ntmps66
  go_wp2_with (go_at_call 64; (with_reducible refine C64h.out.mono ?_); rintro e w' ⟨rfl, rfl⟩)
  go_ret2
  exact LeftR.still R.out _ (Below.refl _ _)
set_option maxHeartbeats 2000000 in
set_option maxRecDepth 100000 in
theorem rawait_mine (B xb : Nat) (h : RG) (a : A) (w : World) (r : RRep B xb h a w) (gd : Good a) (g2 : Good2 a) (own x : Int) (hx : x ∈ a.pids) (hw : (a.pk x).wth = own) :
    Calls Try.prog 66 #[ptr xb, .int .i64 own, .int .i64 x] w (LeftR B xb h a w (.tuple #[.int .i64 0, .int .i64 191]) a) := by
  have hr := gd.pkr x hx
  have hmade := gd.made
  have hN := made_len gd
  have C64 := rthere B xb h a w r gd g2 x
  rw [decide_eq_true hx] at C64
  obtain ⟨n, rfl⟩ : ∃ n : Nat, x = (n : Int) + 1 := ⟨(x - 1).toNat, by omega⟩
  obtain ⟨g, pc, hpv, ⟨pcur, hpb⟩, hc⟩ := r.pcells gd (n := n) (by omega)
  have k1 := r.k1
  rw [hpv] at k1
  have hnl : n < (pnums a.made).length := by omega
  have hn200 : n ≤ 200 := by omega
  have q4 : w.cell? ⟨g, n * 7 + 4, none⟩ = some (.int .i64 (a.pk ((n : Int) + 1)).at_) := by have := hc 4 (by omega); simp only [rpc, rpk_in hx] at this; exact this
  have q5 : w.cell? ⟨g, n * 7 + 5, none⟩ = some (.int .i64 (a.pk ((n : Int) + 1)).frm) := by have := hc 5 (by omega); simp only [rpc, rpk_in hx] at this; exact this
  have q6 : w.cell? ⟨g, n * 7 + 6, none⟩ = some (.int .i64 (a.pk ((n : Int) + 1)).wth) := by have := hc 6 (by omega); simp only [rpc, rpk_in hx] at this; exact this
  have C64h := Lib.hid C64
  have R := Lib.hid r
  have hw2 : ((a.pk ((n : Int) + 1)).wth == own) = true := by simp [hw]
  clear r gd g2 hx hc hpv hpb hr hmade hN C64 hw
  go_enter Try.func66, Try.ntmps66
  go_wp2_with (go_at_call 64; (with_reducible refine C64h.out.mono ?_); rintro e w' ⟨rfl, rfl⟩)
  go_ret2
  exact LeftR.still R.out _ (Below.refl _ _)
set_option maxHeartbeats 2000000 in
set_option maxRecDepth 100000 in
theorem rawait_here (B xb : Nat) (h : RG) (a : A) (w : World) (r : RRep B xb h a w) (gd : Good a) (g2 : Good2 a) (own x : Int) (ho : own ∈ a.tids) (hx : x ∈ a.pids) (hw : (a.pk x).wth ≠ own) (ha : (a.pk x).at_ = own) :
    Calls Try.prog 66 #[ptr xb, .int .i64 own, .int .i64 x] w (LeftR B xb h a w (.tuple #[.int .i64 x, .int .i64 0]) (ownA a x own)) := by
  have C65 := rtake B xb h a w r gd x own hx (by rw [ha]; exact .inl ho)
  have hr := gd.pkr x hx
  have hmade := gd.made
  have hN := made_len gd
  have C64 := rthere B xb h a w r gd g2 x
  rw [decide_eq_true hx] at C64
  obtain ⟨n, rfl⟩ : ∃ n : Nat, x = (n : Int) + 1 := ⟨(x - 1).toNat, by omega⟩
  obtain ⟨g, pc, hpv, ⟨pcur, hpb⟩, hc⟩ := r.pcells gd (n := n) (by omega)
  have k1 := r.k1
  rw [hpv] at k1
  have hnl : n < (pnums a.made).length := by omega
  have hn200 : n ≤ 200 := by omega
  have q4 : w.cell? ⟨g, n * 7 + 4, none⟩ = some (.int .i64 (a.pk ((n : Int) + 1)).at_) := by have := hc 4 (by omega); simp only [rpc, rpk_in hx] at this; exact this
  have q5 : w.cell? ⟨g, n * 7 + 5, none⟩ = some (.int .i64 (a.pk ((n : Int) + 1)).frm) := by have := hc 5 (by omega); simp only [rpc, rpk_in hx] at this; exact this
  have q6 : w.cell? ⟨g, n * 7 + 6, none⟩ = some (.int .i64 (a.pk ((n : Int) + 1)).wth) := by have := hc 6 (by omega); simp only [rpc, rpk_in hx] at this; exact this
  have C64h := Lib.hid C64
  have C65h := Lib.hid C65
  have hw2 : ((a.pk ((n : Int) + 1)).wth == own) = false := by simp [hw]
  have ha2 : ((a.pk ((n : Int) + 1)).at_ == own) = true := by simp [ha]
  clear r gd g2 hx hc hpv hpb hr hmade hN C64 hw ha ho C65
  go_enter Try.func66, Try.ntmps66
  go_wp2_with (first | (go_at_call 64; (with_reducible refine C64h.out.mono ?_); rintro e w' ⟨rfl, rfl⟩) | (go_at_call 65; (with_reducible refine C65h.out.mono ?_); rintro e w' ⟨rfl, h2, hl2⟩; have HL := Lib.hid hl2; clear hl2))
  go_ret2
  exact ⟨rfl, h2, HL.out⟩
set_option maxHeartbeats 2000000 in
set_option maxRecDepth 100000 in
theorem rawait_rest (B xb : Nat) (h : RG) (a : A) (w : World) (r : RRep B xb h a w) (gd : Good a) (g2 : Good2 a) (own x : Int) (ho : own ∈ a.tids) (hx : x ∈ a.pids) (hw : (a.pk x).wth ≠ own) (ha : (a.pk x).at_ ≠ own) :
    Calls Try.prog 66 #[ptr xb, .int .i64 own, .int .i64 x] w (LeftR B xb h a w (.tuple #[.int .i64 0, .int .i64 0]) (restA a own x)) := by
  have hlt := nodup_bound 20 a.tids gd.tnd (fun x hx => gd.trng x hx)
  obtain ⟨m, hm1, hm2, hm3⟩ := posF_in ho
  have D62 := Lib.hid (show ∀ w', RRep B xb h a w' → Calls Try.prog 62 #[ptr xb, .int .i64 own] w' fun e w'' => e = .returned (.int .i64 m) ∧ w' = w'' from fun w' hr => by
    have := rfind B xb h a w' hr gd.tnd (by omega) own
    rw [hm1] at this
    exact this)
  obtain ⟨gt, ct, hv, ⟨tcur, htb⟩, hct⟩ := row_cells (f := rtc a h.qv) (sz := 7) (fun _ => rfl) r.trow hm2
  have k0 := r.k0
  rw [hv] at k0
  have t3 : w.cell? ⟨gt, m * 7 + 3, none⟩ = some (.bool (a.tk own).waiting) := hct 3 (by omega)
  have t4 : w.cell? ⟨gt, m * 7 + 4, none⟩ = some (.int .i64 (a.tk own).forr) := hct 4 (by omega)
  have t5 : w.cell? ⟨gt, m * 7 + 5, none⟩ = some (.int .i64 (a.tk own).flags) := hct 5 (by omega)
  have t6 : w.cell? ⟨gt, m * 7 + 6, none⟩ = some (h.qv own) := hct 6 (by omega)
  have tf : ∀ j, w.frozen? ⟨gt, j, none⟩ = false := fun j => free_of htb j
  have tf3 := tf (m * 7 + 3)
  have tf4 := tf (m * 7 + 4)
  have tf5 := tf (m * 7 + 5)
  have hm20 : m ≤ 20 := by omega
  have HTG := Lib.hid (show h.tv.ownBlock = some gt by rw [hv]; rfl)
  have HM2 := Lib.hid hm2
  have hr := gd.pkr x hx
  have hmade := gd.made
  have hN := made_len gd
  have C64 := rthere B xb h a w r gd g2 x
  rw [decide_eq_true hx] at C64
  obtain ⟨n, rfl⟩ : ∃ n : Nat, x = (n : Int) + 1 := ⟨(x - 1).toNat, by omega⟩
  obtain ⟨g, pc, hpv, ⟨pcur, hpb⟩, hc⟩ := r.pcells gd (n := n) (by omega)
  have k1 := r.k1
  rw [hpv] at k1
  have hnl : n < (pnums a.made).length := by omega
  have hn200 : n ≤ 200 := by omega
  have q4 : w.cell? ⟨g, n * 7 + 4, none⟩ = some (.int .i64 (a.pk ((n : Int) + 1)).at_) := by have := hc 4 (by omega); simp only [rpc, rpk_in hx] at this; exact this
  have q5 : w.cell? ⟨g, n * 7 + 5, none⟩ = some (.int .i64 (a.pk ((n : Int) + 1)).frm) := by have := hc 5 (by omega); simp only [rpc, rpk_in hx] at this; exact this
  have q6 : w.cell? ⟨g, n * 7 + 6, none⟩ = some (.int .i64 (a.pk ((n : Int) + 1)).wth) := by have := hc 6 (by omega); simp only [rpc, rpk_in hx] at this; exact this
  have C64h := Lib.hid C64
  have hw2 : ((a.pk ((n : Int) + 1)).wth == own) = false := by simp [hw]
  have ha2 : ((a.pk ((n : Int) + 1)).at_ == own) = false := by simp [ha]
  have R := Lib.hid r
  have GD := Lib.hid gd
  clear r gd g2 hx hc hpv hpb hr hmade hN C64 hw ha ho hm1 hm2 hct hv htb tf
  go_enter Try.func66, Try.ntmps66
  go_wp2_with (go_at_call 64; (with_reducible refine C64h.out.mono ?_); rintro e w' ⟨rfl, rfl⟩)
  go_quiet (((refine (D62.out _ ?_).mono ?_); (exact R.out.keep (fun _ _ => rfl)); (intro e w' h; exact ⟨h.1, _, h.2.symm⟩)))
  go_wp2_with fail
  go_ret2
  have r1 := R.out.drewN nq
  have L3 := r1.setTk GD.out.tnd HM2.out HTG.out 3 (by omega) (.bool true) { a.tk own with waiting := true } (by simp [rtc, upd_same])
  have L4 := L3.rep.setTk (i := own) GD.out.tnd HM2.out HTG.out 4 (by omega) (.int .i64 ((n : Int) + 1)) { a.tk own with waiting := true, forr := (n : Int) + 1 } (by simp [rtc, upd_same])
  have L := ((Left.refl R.out (below_drewN (Below.refl _ _) nq)).trans L3).trans L4
  simp only [upd_upd] at L
  exact ⟨rfl, _, L⟩
end Go.Proofs.Ytkmgbnklfnjfjaa.Ker
