import Derived.Test.YtkmgbnklfnjfjaaRI
/-! The specification's kernel: interrupt, priority, mark. -/
namespace Go.Proofs.Ytkmgbnklfnjfjaa.Ker
open Go.RowKit Go.Maps

theorem rset_res {B xb : Nat} {h : RG} {a : A} {w : World} (r : RRep B xb h a w) {n g : Nat} (hp : ((n : Int) + 1) ∈ a.pids) (hm : (n : Int) < a.made) (hg : h.pv.ownBlock = some g) (y : Int) :
    Left B xb h a w h (resA a ((n : Int) + 1) y) (w.setCell ⟨g, n * 7 + 2, none⟩ (.int .i64 y)) := by
  have hnn : ((n : Int) + 1 - 1).toNat = n := by omega
  have L := r.setPk hp ⟨by omega, by omega⟩ hg 2 (by omega) (.int .i64 y) { a.pk ((n : Int) + 1) with res := y } (by simp [rpc, rpk, hp, upd_same])
  rw [hnn] at L
  exact L
set_option maxHeartbeats 2000000 in
set_option maxRecDepth 100000 in
theorem rint_none (B xb : Nat) (h : RG) (a : A) (w : World) (r : RRep B xb h a w) (gd : Good a) (g2 : Good2 a) (x y : Int) (hx : x ∉ devs) :
    Calls Try.prog 56 #[ptr xb, .int .i64 x, .int .i64 y] w (LeftR B xb h a w (.int .i64 190) a) := by
  have C67 := rdevice w x
  rw [decide_eq_false hx] at C67
  have C67h := Lib.hid C67
  have R := Lib.hid r
  clear C67 r gd g2 hx
  go_enter Try.func56, Try.ntmps56
  go_wp2_with (go_at_call 67; (with_reducible refine C67h.out.mono ?_); rintro e w' ⟨rfl, rfl⟩)
  go_ret
  exact LeftR.still R.out _ (Below.refl _ _)
set_option maxHeartbeats 2000000 in
set_option maxRecDepth 100000 in
theorem rint_empty0 (B xb : Nat) (h : RG) (a : A) (w : World) (r : RRep B xb h a w) (gd : Good a) (g2 : Good2 a) (y : Int) (hq : a.q (-1) = []) :
    Calls Try.prog 56 #[ptr xb, .int .i64 (-1), .int .i64 y] w (LeftR B xb h a w (.int .i64 5) a) := by
  have C67 := rdevice w (-1)
  rw [decide_eq_true (by decide)] at C67
  have C67h := Lib.hid C67
  have hkk : w.cell? ⟨xb, 2, none⟩ = some (h.qv (-1)) := by rw [cell_of r.blk]; rfl
  obtain ⟨va, vc, hqv⟩ := own_form (r.row (-1) (.inr (by decide)))
  rw [hqv, hq] at hkk
  have R := Lib.hid r
  clear C67 r gd g2 hq hqv
  go_enter Try.func56, Try.ntmps56
  go_wp2_with (go_at_call 67; (with_reducible refine C67h.out.mono ?_); rintro e w' ⟨rfl, rfl⟩)
  go_ret
  exact LeftR.still R.out _ (Below.refl _ _)
set_option maxHeartbeats 2000000 in
set_option maxRecDepth 100000 in
theorem rint_gone0 (B xb : Nat) (h : RG) (a : A) (w : World) (r : RRep B xb h a w) (gd : Good a) (g2 : Good2 a) (y x : Int) (l : List Int) (hq : a.q (-1) = x :: l) (hf : (a.pk x).frm ∉ a.tids) :
    Calls Try.prog 56 #[ptr xb, .int .i64 (-1), .int .i64 y] w (LeftR B xb h a w (.int .i64 5) (ownA a x 0)) := by
  have C67 := rdevice w (-1)
  rw [decide_eq_true (by decide)] at C67
  have C67h := Lib.hid C67
  have hkk : w.cell? ⟨xb, 2, none⟩ = some (h.qv (-1)) := by rw [cell_of r.blk]; rfl
  have hxq : x ∈ a.q (-1) := by rw [hq]; simp
  have hpq := gd.qin (-1) (.inr (by decide)) x hxq
  have hx := hpq.1
  have hrow := r.row (-1) (.inr (by decide))
  obtain ⟨gq, cq, hqv, _, _, _, cur, hqb, _, _, hqc⟩ := own_cell hrow (by rw [hq]; simp)
  have z0 : w.cell? ⟨gq, 0, none⟩ = some (.int .i64 x) := by
    have := hqc 0 (by rw [hq]; simp)
    rw [hq] at this
    simpa using this
  have hql := gd.qlen (i := (-1)) (.inr (by decide))
  rw [hqv, hq] at hkk
  rw [hq] at hql
  simp only [List.length_cons] at hql
  have C65 := rtake B xb h a w r gd x 0 hx (by rw [hpq.2]; exact .inr (by decide))
  have hr := gd.pkr x hx
  have hmade := gd.made
  have hN := made_len gd
  have C64 := rthere B xb h a w r gd g2 x
  rw [decide_eq_true hx] at C64
  obtain ⟨n, rfl⟩ : ∃ n : Nat, x = (n : Int) + 1 := ⟨(x - 1).toNat, by omega⟩
  obtain ⟨g, pc, hpv, ⟨pcur, hpb⟩, hc⟩ := r.pcells gd (n := n) (by omega)
  have k1 := r.k1
  rw [hpv] at k1
  have hnl : n < (pnums a.made).length := by omega
  have hn200 : n ≤ 200 := by omega
  have q4 : w.cell? ⟨g, n * 7 + 4, none⟩ = some (.int .i64 (a.pk ((n : Int) + 1)).at_) := by have := hc 4 (by omega); simp only [rpc, rpk_in hx] at this; exact this
  have q5 : w.cell? ⟨g, n * 7 + 5, none⟩ = some (.int .i64 (a.pk ((n : Int) + 1)).frm) := by have := hc 5 (by omega); simp only [rpc, rpk_in hx] at this; exact this
  have q6 : w.cell? ⟨g, n * 7 + 6, none⟩ = some (.int .i64 (a.pk ((n : Int) + 1)).wth) := by have := hc 6 (by omega); simp only [rpc, rpk_in hx] at this; exact this
  have C65h := Lib.hid C65
  have hlt := nodup_bound 20 a.tids gd.tnd (fun x hx => gd.trng x hx)
  have C62 := rfind B xb h a w r gd.tnd (by omega) (a.pk ((n : Int) + 1)).frm
  rw [posF_out hf] at C62
  have C62h := Lib.hid C62
  clear C67 C62 C65 r gd g2 hx hc hpv hpb hr hmade hN C64 hq hf hxq hpq hrow hqv hqb hqc
  go_enter Try.func56, Try.ntmps56
  go_wp2_with (first | (go_at_call 67; (with_reducible refine C67h.out.mono ?_); rintro e w' ⟨rfl, rfl⟩) | (go_at_call 62; (with_reducible refine C62h.out.mono ?_); rintro e w' ⟨rfl, rfl⟩) | (go_at_call 65; (with_reducible refine C65h.out.mono ?_); rintro e w' ⟨rfl, h2, hl2⟩; have HL := Lib.hid hl2; clear hl2))
  go_ret
  exact ⟨rfl, h2, HL.out⟩
set_option maxHeartbeats 2000000 in
set_option maxRecDepth 100000 in
theorem rint_ok0 (B xb : Nat) (h : RG) (a : A) (w : World) (r : RRep B xb h a w) (gd : Good a) (g2 : Good2 a) (y x : Int) (l : List Int) (hq : a.q (-1) = x :: l) (hf : (a.pk x).frm ∈ a.tids) (hm : a.moves.length ≤ 100000) :
    Calls Try.prog 56 #[ptr xb, .int .i64 (-1), .int .i64 y] w (LeftR B xb h a w (.int .i64 0) (moveR (resA (ownA a x 0) x y) x (-1) (a.pk x).frm)) := by
  have C67 := rdevice w (-1)
  rw [decide_eq_true (by decide)] at C67
  have C67h := Lib.hid C67
  have hkk : w.cell? ⟨xb, 2, none⟩ = some (h.qv (-1)) := by rw [cell_of r.blk]; rfl
  have hxq : x ∈ a.q (-1) := by rw [hq]; simp
  have hpq := gd.qin (-1) (.inr (by decide)) x hxq
  have hx := hpq.1
  have hrow := r.row (-1) (.inr (by decide))
  obtain ⟨gq, cq, hqv, _, _, _, cur, hqb, _, _, hqc⟩ := own_cell hrow (by rw [hq]; simp)
  have z0 : w.cell? ⟨gq, 0, none⟩ = some (.int .i64 x) := by
    have := hqc 0 (by rw [hq]; simp)
    rw [hq] at this
    simpa using this
  have hql := gd.qlen (i := (-1)) (.inr (by decide))
  rw [hqv, hq] at hkk
  rw [hq] at hql
  simp only [List.length_cons] at hql
  have C65 := rtake B xb h a w r gd x 0 hx (by rw [hpq.2]; exact .inr (by decide))
  have hr := gd.pkr x hx
  have hmade := gd.made
  have hN := made_len gd
  have C64 := rthere B xb h a w r gd g2 x
  rw [decide_eq_true hx] at C64
  obtain ⟨n, rfl⟩ : ∃ n : Nat, x = (n : Int) + 1 := ⟨(x - 1).toNat, by omega⟩
  obtain ⟨g, pc, hpv, ⟨pcur, hpb⟩, hc⟩ := r.pcells gd (n := n) (by omega)
  have k1 := r.k1
  rw [hpv] at k1
  have hnl : n < (pnums a.made).length := by omega
  have hn200 : n ≤ 200 := by omega
  have q4 : w.cell? ⟨g, n * 7 + 4, none⟩ = some (.int .i64 (a.pk ((n : Int) + 1)).at_) := by have := hc 4 (by omega); simp only [rpc, rpk_in hx] at this; exact this
  have q5 : w.cell? ⟨g, n * 7 + 5, none⟩ = some (.int .i64 (a.pk ((n : Int) + 1)).frm) := by have := hc 5 (by omega); simp only [rpc, rpk_in hx] at this; exact this
  have q6 : w.cell? ⟨g, n * 7 + 6, none⟩ = some (.int .i64 (a.pk ((n : Int) + 1)).wth) := by have := hc 6 (by omega); simp only [rpc, rpk_in hx] at this; exact this
  have C65h := Lib.hid C65
  have hlt := nodup_bound 20 a.tids gd.tnd (fun x hx => gd.trng x hx)
  have C62 := rfind B xb h a w r gd.tnd (by omega) (a.pk ((n : Int) + 1)).frm
  obtain ⟨m, hm1, hm2, hm3⟩ := posF_in hf
  rw [hm1] at C62
  have C62h := Lib.hid C62
  have gd1 := good_own gd ((n : Int) + 1) 0 hx
  have gd2 := good_res gd1 ((n : Int) + 1) y
  have C88h := Lib.hid (fun (h' : RG) (w' : World) (hr : RRep B xb h' (resA (ownA a ((n : Int) + 1) 0) ((n : Int) + 1) y) w') => renq B xb h' _ w' hr gd2 ((n : Int) + 1) (-1) (a.pk ((n : Int) + 1)).frm hx (.inl hf) hm)
  have HX := Lib.hid hx
  have G1 := Lib.hid gd1
  have hmd : (n : Int) < (ownA a ((n : Int) + 1) 0).made := by show (n : Int) < a.made; omega
  clear C67 C62 C65 r gd g2 hx hc hpv hpb hr hmade hN C64 hq hf hxq hpq hrow hqv hqb hqc gd1 gd2 hm1 hm2
  go_enter Try.func56, Try.ntmps56
  go_wp2_with (first | (go_at_call 67; (with_reducible refine C67h.out.mono ?_); rintro e w' ⟨rfl, rfl⟩) | (go_at_call 62; (with_reducible refine C62h.out.mono ?_); rintro e w' ⟨rfl, rfl⟩) | (go_at_call 65; (with_reducible refine C65h.out.mono ?_); rintro e w2 ⟨rfl, h2, hl2⟩; (obtain ⟨g2, pc2, hpv2, ⟨pcur2, hpb2⟩, hc2⟩ := hl2.rep.pcells G1.out (n := n) hmd); have k12 := hl2.rep.k1; rw [hpv2] at k12; have x2 : w2.cell? ⟨g2, n * 7 + 2, none⟩ = some (.int .i64 (rpk (ownA a ((n : Int) + 1) 0) ((n : Int) + 1)).res) := hc2 2 (by omega); have f2 : w2.frozen? ⟨g2, n * 7 + 2, none⟩ = false := free_of hpb2 _; have HL := Lib.hid (hl2.trans (rset_res hl2.rep HX.out hmd (by rw [hpv2]; rfl) y)); clear hl2 hpv2 hpb2 hc2) | (go_at_call 88; (with_reducible refine (C88h.out _ _ HL.out.rep).mono ?_); rintro e w4 ⟨rfl, h4, hl4⟩; have HL4 := Lib.hid (HL.out.trans hl4); clear hl4))
  go_ret
  exact ⟨rfl, h4, HL4.out⟩
set_option maxHeartbeats 2000000 in
set_option maxRecDepth 100000 in
theorem rint_empty1 (B xb : Nat) (h : RG) (a : A) (w : World) (r : RRep B xb h a w) (gd : Good a) (g2 : Good2 a) (y : Int) (hq : a.q (-2) = []) :
    Calls Try.prog 56 #[ptr xb, .int .i64 (-2), .int .i64 y] w (LeftR B xb h a w (.int .i64 5) a) := by
  have C67 := rdevice w (-2)
  rw [decide_eq_true (by decide)] at C67
  have C67h := Lib.hid C67
  have hkk : w.cell? ⟨xb, 3, none⟩ = some (h.qv (-2)) := by rw [cell_of r.blk]; rfl
  obtain ⟨va, vc, hqv⟩ := own_form (r.row (-2) (.inr (by decide)))
  rw [hqv, hq] at hkk
  have R := Lib.hid r
  clear C67 r gd g2 hq hqv
  go_enter Try.func56, Try.ntmps56
  go_wp2_with (go_at_call 67; (with_reducible refine C67h.out.mono ?_); rintro e w' ⟨rfl, rfl⟩)
  go_ret
  exact LeftR.still R.out _ (Below.refl _ _)
set_option maxHeartbeats 2000000 in
set_option maxRecDepth 100000 in
theorem rint_gone1 (B xb : Nat) (h : RG) (a : A) (w : World) (r : RRep B xb h a w) (gd : Good a) (g2 : Good2 a) (y x : Int) (l : List Int) (hq : a.q (-2) = x :: l) (hf : (a.pk x).frm ∉ a.tids) :
    Calls Try.prog 56 #[ptr xb, .int .i64 (-2), .int .i64 y] w (LeftR B xb h a w (.int .i64 5) (ownA a x 0)) := by
  have C67 := rdevice w (-2)
  rw [decide_eq_true (by decide)] at C67
  have C67h := Lib.hid C67
  have hkk : w.cell? ⟨xb, 3, none⟩ = some (h.qv (-2)) := by rw [cell_of r.blk]; rfl
  have hxq : x ∈ a.q (-2) := by rw [hq]; simp
  have hpq := gd.qin (-2) (.inr (by decide)) x hxq
  have hx := hpq.1
  have hrow := r.row (-2) (.inr (by decide))
  obtain ⟨gq, cq, hqv, _, _, _, cur, hqb, _, _, hqc⟩ := own_cell hrow (by rw [hq]; simp)
  have z0 : w.cell? ⟨gq, 0, none⟩ = some (.int .i64 x) := by
    have := hqc 0 (by rw [hq]; simp)
    rw [hq] at this
    simpa using this
  have hql := gd.qlen (i := (-2)) (.inr (by decide))
  rw [hqv, hq] at hkk
  rw [hq] at hql
  simp only [List.length_cons] at hql
  have C65 := rtake B xb h a w r gd x 0 hx (by rw [hpq.2]; exact .inr (by decide))
  have hr := gd.pkr x hx
  have hmade := gd.made
  have hN := made_len gd
  have C64 := rthere B xb h a w r gd g2 x
  rw [decide_eq_true hx] at C64
  obtain ⟨n, rfl⟩ : ∃ n : Nat, x = (n : Int) + 1 := ⟨(x - 1).toNat, by omega⟩
  obtain ⟨g, pc, hpv, ⟨pcur, hpb⟩, hc⟩ := r.pcells gd (n := n) (by omega)
  have k1 := r.k1
  rw [hpv] at k1
  have hnl : n < (pnums a.made).length := by omega
  have hn200 : n ≤ 200 := by omega
  have q4 : w.cell? ⟨g, n * 7 + 4, none⟩ = some (.int .i64 (a.pk ((n : Int) + 1)).at_) := by have := hc 4 (by omega); simp only [rpc, rpk_in hx] at this; exact this
  have q5 : w.cell? ⟨g, n * 7 + 5, none⟩ = some (.int .i64 (a.pk ((n : Int) + 1)).frm) := by have := hc 5 (by omega); simp only [rpc, rpk_in hx] at this; exact this
  have q6 : w.cell? ⟨g, n * 7 + 6, none⟩ = some (.int .i64 (a.pk ((n : Int) + 1)).wth) := by have := hc 6 (by omega); simp only [rpc, rpk_in hx] at this; exact this
  have C65h := Lib.hid C65
  have hlt := nodup_bound 20 a.tids gd.tnd (fun x hx => gd.trng x hx)
  have C62 := rfind B xb h a w r gd.tnd (by omega) (a.pk ((n : Int) + 1)).frm
  rw [posF_out hf] at C62
  have C62h := Lib.hid C62
  clear C67 C62 C65 r gd g2 hx hc hpv hpb hr hmade hN C64 hq hf hxq hpq hrow hqv hqb hqc
  go_enter Try.func56, Try.ntmps56
  go_wp2_with (first | (go_at_call 67; (with_reducible refine C67h.out.mono ?_); rintro e w' ⟨rfl, rfl⟩) | (go_at_call 62; (with_reducible refine C62h.out.mono ?_); rintro e w' ⟨rfl, rfl⟩) | (go_at_call 65; (with_reducible refine C65h.out.mono ?_); rintro e w' ⟨rfl, h2, hl2⟩; have HL := Lib.hid hl2; clear hl2))
  go_ret
  exact ⟨rfl, h2, HL.out⟩
set_option maxHeartbeats 2000000 in
set_option maxRecDepth 100000 in
theorem rint_ok1 (B xb : Nat) (h : RG) (a : A) (w : World) (r : RRep B xb h a w) (gd : Good a) (g2 : Good2 a) (y x : Int) (l : List Int) (hq : a.q (-2) = x :: l) (hf : (a.pk x).frm ∈ a.tids) (hm : a.moves.length ≤ 100000) :
    Calls Try.prog 56 #[ptr xb, .int .i64 (-2), .int .i64 y] w (LeftR B xb h a w (.int .i64 0) (moveR (resA (ownA a x 0) x y) x (-2) (a.pk x).frm)) := by
  have C67 := rdevice w (-2)
  rw [decide_eq_true (by decide)] at C67
  have C67h := Lib.hid C67
  have hkk : w.cell? ⟨xb, 3, none⟩ = some (h.qv (-2)) := by rw [cell_of r.blk]; rfl
  have hxq : x ∈ a.q (-2) := by rw [hq]; simp
  have hpq := gd.qin (-2) (.inr (by decide)) x hxq
  have hx := hpq.1
  have hrow := r.row (-2) (.inr (by decide))
  obtain ⟨gq, cq, hqv, _, _, _, cur, hqb, _, _, hqc⟩ := own_cell hrow (by rw [hq]; simp)
  have z0 : w.cell? ⟨gq, 0, none⟩ = some (.int .i64 x) := by
    have := hqc 0 (by rw [hq]; simp)
    rw [hq] at this
    simpa using this
  have hql := gd.qlen (i := (-2)) (.inr (by decide))
  rw [hqv, hq] at hkk
  rw [hq] at hql
  simp only [List.length_cons] at hql
  have C65 := rtake B xb h a w r gd x 0 hx (by rw [hpq.2]; exact .inr (by decide))
  have hr := gd.pkr x hx
  have hmade := gd.made
  have hN := made_len gd
  have C64 := rthere B xb h a w r gd g2 x
  rw [decide_eq_true hx] at C64
  obtain ⟨n, rfl⟩ : ∃ n : Nat, x = (n : Int) + 1 := ⟨(x - 1).toNat, by omega⟩
  obtain ⟨g, pc, hpv, ⟨pcur, hpb⟩, hc⟩ := r.pcells gd (n := n) (by omega)
  have k1 := r.k1
  rw [hpv] at k1
  have hnl : n < (pnums a.made).length := by omega
  have hn200 : n ≤ 200 := by omega
  have q4 : w.cell? ⟨g, n * 7 + 4, none⟩ = some (.int .i64 (a.pk ((n : Int) + 1)).at_) := by have := hc 4 (by omega); simp only [rpc, rpk_in hx] at this; exact this
  have q5 : w.cell? ⟨g, n * 7 + 5, none⟩ = some (.int .i64 (a.pk ((n : Int) + 1)).frm) := by have := hc 5 (by omega); simp only [rpc, rpk_in hx] at this; exact this
  have q6 : w.cell? ⟨g, n * 7 + 6, none⟩ = some (.int .i64 (a.pk ((n : Int) + 1)).wth) := by have := hc 6 (by omega); simp only [rpc, rpk_in hx] at this; exact this
  have C65h := Lib.hid C65
  have hlt := nodup_bound 20 a.tids gd.tnd (fun x hx => gd.trng x hx)
  have C62 := rfind B xb h a w r gd.tnd (by omega) (a.pk ((n : Int) + 1)).frm
  obtain ⟨m, hm1, hm2, hm3⟩ := posF_in hf
  rw [hm1] at C62
  have C62h := Lib.hid C62
  have gd1 := good_own gd ((n : Int) + 1) 0 hx
  have gd2 := good_res gd1 ((n : Int) + 1) y
  have C88h := Lib.hid (fun (h' : RG) (w' : World) (hr : RRep B xb h' (resA (ownA a ((n : Int) + 1) 0) ((n : Int) + 1) y) w') => renq B xb h' _ w' hr gd2 ((n : Int) + 1) (-2) (a.pk ((n : Int) + 1)).frm hx (.inl hf) hm)
  have HX := Lib.hid hx
  have G1 := Lib.hid gd1
  have hmd : (n : Int) < (ownA a ((n : Int) + 1) 0).made := by show (n : Int) < a.made; omega
  clear C67 C62 C65 r gd g2 hx hc hpv hpb hr hmade hN C64 hq hf hxq hpq hrow hqv hqb hqc gd1 gd2 hm1 hm2
  go_enter Try.func56, Try.ntmps56
  go_wp2_with (first | (go_at_call 67; (with_reducible refine C67h.out.mono ?_); rintro e w' ⟨rfl, rfl⟩) | (go_at_call 62; (with_reducible refine C62h.out.mono ?_); rintro e w' ⟨rfl, rfl⟩) | (go_at_call 65; (with_reducible refine C65h.out.mono ?_); rintro e w2 ⟨rfl, h2, hl2⟩; (obtain ⟨g2, pc2, hpv2, ⟨pcur2, hpb2⟩, hc2⟩ := hl2.rep.pcells G1.out (n := n) hmd); have k12 := hl2.rep.k1; rw [hpv2] at k12; have x2 : w2.cell? ⟨g2, n * 7 + 2, none⟩ = some (.int .i64 (rpk (ownA a ((n : Int) + 1) 0) ((n : Int) + 1)).res) := hc2 2 (by omega); have f2 : w2.frozen? ⟨g2, n * 7 + 2, none⟩ = false := free_of hpb2 _; have HL := Lib.hid (hl2.trans (rset_res hl2.rep HX.out hmd (by rw [hpv2]; rfl) y)); clear hl2 hpv2 hpb2 hc2) | (go_at_call 88; (with_reducible refine (C88h.out _ _ HL.out.rep).mono ?_); rintro e w4 ⟨rfl, h4, hl4⟩; have HL4 := Lib.hid (HL.out.trans hl4); clear hl4))
  go_ret
  exact ⟨rfl, h4, HL4.out⟩
set_option maxHeartbeats 2000000 in
set_option maxRecDepth 100000 in
theorem rint_empty2 (B xb : Nat) (h : RG) (a : A) (w : World) (r : RRep B xb h a w) (gd : Good a) (g2 : Good2 a) (y : Int) (hq : a.q (-3) = []) :
    Calls Try.prog 56 #[ptr xb, .int .i64 (-3), .int .i64 y] w (LeftR B xb h a w (.int .i64 5) a) := by
  have C67 := rdevice w (-3)
  rw [decide_eq_true (by decide)] at C67
  have C67h := Lib.hid C67
  have hkk : w.cell? ⟨xb, 4, none⟩ = some (h.qv (-3)) := by rw [cell_of r.blk]; rfl
  obtain ⟨va, vc, hqv⟩ := own_form (r.row (-3) (.inr (by decide)))
  rw [hqv, hq] at hkk
  have R := Lib.hid r
  clear C67 r gd g2 hq hqv
  go_enter Try.func56, Try.ntmps56
  go_wp2_with (go_at_call 67; (with_reducible refine C67h.out.mono ?_); rintro e w' ⟨rfl, rfl⟩)
  go_ret
  exact LeftR.still R.out _ (Below.refl _ _)
set_option maxHeartbeats 2000000 in
set_option maxRecDepth 100000 in
theorem rint_gone2 (B xb : Nat) (h : RG) (a : A) (w : World) (r : RRep B xb h a w) (gd : Good a) (g2 : Good2 a) (y x : Int) (l : List Int) (hq : a.q (-3) = x :: l) (hf : (a.pk x).frm ∉ a.tids) :
    Calls Try.prog 56 #[ptr xb, .int .i64 (-3), .int .i64 y] w (LeftR B xb h a w (.int .i64 5) (ownA a x 0)) := by
  have C67 := rdevice w (-3)
  rw [decide_eq_true (by decide)] at C67
  have C67h := Lib.hid C67
  have hkk : w.cell? ⟨xb, 4, none⟩ = some (h.qv (-3)) := by rw [cell_of r.blk]; rfl
  have hxq : x ∈ a.q (-3) := by rw [hq]; simp
  have hpq := gd.qin (-3) (.inr (by decide)) x hxq
  have hx := hpq.1
  have hrow := r.row (-3) (.inr (by decide))
  obtain ⟨gq, cq, hqv, _, _, _, cur, hqb, _, _, hqc⟩ := own_cell hrow (by rw [hq]; simp)
  have z0 : w.cell? ⟨gq, 0, none⟩ = some (.int .i64 x) := by
    have := hqc 0 (by rw [hq]; simp)
    rw [hq] at this
    simpa using this
  have hql := gd.qlen (i := (-3)) (.inr (by decide))
  rw [hqv, hq] at hkk
  rw [hq] at hql
  simp only [List.length_cons] at hql
  have C65 := rtake B xb h a w r gd x 0 hx (by rw [hpq.2]; exact .inr (by decide))
  have hr := gd.pkr x hx
  have hmade := gd.made
  have hN := made_len gd
  have C64 := rthere B xb h a w r gd g2 x
  rw [decide_eq_true hx] at C64
  obtain ⟨n, rfl⟩ : ∃ n : Nat, x = (n : Int) + 1 := ⟨(x - 1).toNat, by omega⟩
  obtain ⟨g, pc, hpv, ⟨pcur, hpb⟩, hc⟩ := r.pcells gd (n := n) (by omega)
  have k1 := r.k1
  rw [hpv] at k1
  have hnl : n < (pnums a.made).length := by omega
  have hn200 : n ≤ 200 := by omega
  have q4 : w.cell? ⟨g, n * 7 + 4, none⟩ = some (.int .i64 (a.pk ((n : Int) + 1)).at_) := by have := hc 4 (by omega); simp only [rpc, rpk_in hx] at this; exact this
  have q5 : w.cell? ⟨g, n * 7 + 5, none⟩ = some (.int .i64 (a.pk ((n : Int) + 1)).frm) := by have := hc 5 (by omega); simp only [rpc, rpk_in hx] at this; exact this
  have q6 : w.cell? ⟨g, n * 7 + 6, none⟩ = some (.int .i64 (a.pk ((n : Int) + 1)).wth) := by have := hc 6 (by omega); simp only [rpc, rpk_in hx] at this; exact this
  have C65h := Lib.hid C65
  have hlt := nodup_bound 20 a.tids gd.tnd (fun x hx => gd.trng x hx)
  have C62 := rfind B xb h a w r gd.tnd (by omega) (a.pk ((n : Int) + 1)).frm
  rw [posF_out hf] at C62
  have C62h := Lib.hid C62
  clear C67 C62 C65 r gd g2 hx hc hpv hpb hr hmade hN C64 hq hf hxq hpq hrow hqv hqb hqc
  go_enter Try.func56, Try.ntmps56
  go_wp2_with (first | (go_at_call 67; (with_reducible refine C67h.out.mono ?_); rintro e w' ⟨rfl, rfl⟩) | (go_at_call 62; (with_reducible refine C62h.out.mono ?_); rintro e w' ⟨rfl, rfl⟩) | (go_at_call 65; (with_reducible refine C65h.out.mono ?_); rintro e w' ⟨rfl, h2, hl2⟩; have HL := Lib.hid hl2; clear hl2))
  go_ret
  exact ⟨rfl, h2, HL.out⟩
set_option maxHeartbeats 2000000 in
set_option maxRecDepth 100000 in
theorem rint_ok2 (B xb : Nat) (h : RG) (a : A) (w : World) (r : RRep B xb h a w) (gd : Good a) (g2 : Good2 a) (y x : Int) (l : List Int) (hq : a.q (-3) = x :: l) (hf : (a.pk x).frm ∈ a.tids) (hm : a.moves.length ≤ 100000) :
    Calls Try.prog 56 #[ptr xb, .int .i64 (-3), .int .i64 y] w (LeftR B xb h a w (.int .i64 0) (moveR (resA (ownA a x 0) x y) x (-3) (a.pk x).frm)) := by
  have C67 := rdevice w (-3)
  rw [decide_eq_true (by decide)] at C67
  have C67h := Lib.hid C67
  have hkk : w.cell? ⟨xb, 4, none⟩ = some (h.qv (-3)) := by rw [cell_of r.blk]; rfl
  have hxq : x ∈ a.q (-3) := by rw [hq]; simp
  have hpq := gd.qin (-3) (.inr (by decide)) x hxq
  have hx := hpq.1
  have hrow := r.row (-3) (.inr (by decide))
  obtain ⟨gq, cq, hqv, _, _, _, cur, hqb, _, _, hqc⟩ := own_cell hrow (by rw [hq]; simp)
  have z0 : w.cell? ⟨gq, 0, none⟩ = some (.int .i64 x) := by
    have := hqc 0 (by rw [hq]; simp)
    rw [hq] at this
    simpa using this
  have hql := gd.qlen (i := (-3)) (.inr (by decide))
  rw [hqv, hq] at hkk
  rw [hq] at hql
  simp only [List.length_cons] at hql
  have C65 := rtake B xb h a w r gd x 0 hx (by rw [hpq.2]; exact .inr (by decide))
  have hr := gd.pkr x hx
  have hmade := gd.made
  have hN := made_len gd
  have C64 := rthere B xb h a w r gd g2 x
  rw [decide_eq_true hx] at C64
  obtain ⟨n, rfl⟩ : ∃ n : Nat, x = (n : Int) + 1 := ⟨(x - 1).toNat, by omega⟩
  obtain ⟨g, pc, hpv, ⟨pcur, hpb⟩, hc⟩ := r.pcells gd (n := n) (by omega)
  have k1 := r.k1
  rw [hpv] at k1
  have hnl : n < (pnums a.made).length := by omega
  have hn200 : n ≤ 200 := by omega
  have q4 : w.cell? ⟨g, n * 7 + 4, none⟩ = some (.int .i64 (a.pk ((n : Int) + 1)).at_) := by have := hc 4 (by omega); simp only [rpc, rpk_in hx] at this; exact this
  have q5 : w.cell? ⟨g, n * 7 + 5, none⟩ = some (.int .i64 (a.pk ((n : Int) + 1)).frm) := by have := hc 5 (by omega); simp only [rpc, rpk_in hx] at this; exact this
  have q6 : w.cell? ⟨g, n * 7 + 6, none⟩ = some (.int .i64 (a.pk ((n : Int) + 1)).wth) := by have := hc 6 (by omega); simp only [rpc, rpk_in hx] at this; exact this
  have C65h := Lib.hid C65
  have hlt := nodup_bound 20 a.tids gd.tnd (fun x hx => gd.trng x hx)
  have C62 := rfind B xb h a w r gd.tnd (by omega) (a.pk ((n : Int) + 1)).frm
  obtain ⟨m, hm1, hm2, hm3⟩ := posF_in hf
  rw [hm1] at C62
  have C62h := Lib.hid C62
  have gd1 := good_own gd ((n : Int) + 1) 0 hx
  have gd2 := good_res gd1 ((n : Int) + 1) y
  have C88h := Lib.hid (fun (h' : RG) (w' : World) (hr : RRep B xb h' (resA (ownA a ((n : Int) + 1) 0) ((n : Int) + 1) y) w') => renq B xb h' _ w' hr gd2 ((n : Int) + 1) (-3) (a.pk ((n : Int) + 1)).frm hx (.inl hf) hm)
  have HX := Lib.hid hx
  have G1 := Lib.hid gd1
  have hmd : (n : Int) < (ownA a ((n : Int) + 1) 0).made := by show (n : Int) < a.made; omega
  clear C67 C62 C65 r gd g2 hx hc hpv hpb hr hmade hN C64 hq hf hxq hpq hrow hqv hqb hqc gd1 gd2 hm1 hm2
  go_enter Try.func56, Try.ntmps56
  go_wp2_with (first | (go_at_call 67; (with_reducible refine C67h.out.mono ?_); rintro e w' ⟨rfl, rfl⟩) | (go_at_call 62; (with_reducible refine C62h.out.mono ?_); rintro e w' ⟨rfl, rfl⟩) | (go_at_call 65; (with_reducible refine C65h.out.mono ?_); rintro e w2 ⟨rfl, h2, hl2⟩; (obtain ⟨g2, pc2, hpv2, ⟨pcur2, hpb2⟩, hc2⟩ := hl2.rep.pcells G1.out (n := n) hmd); have k12 := hl2.rep.k1; rw [hpv2] at k12; have x2 : w2.cell? ⟨g2, n * 7 + 2, none⟩ = some (.int .i64 (rpk (ownA a ((n : Int) + 1) 0) ((n : Int) + 1)).res) := hc2 2 (by omega); have f2 : w2.frozen? ⟨g2, n * 7 + 2, none⟩ = false := free_of hpb2 _; have HL := Lib.hid (hl2.trans (rset_res hl2.rep HX.out hmd (by rw [hpv2]; rfl) y)); clear hl2 hpv2 hpb2 hc2) | (go_at_call 88; (with_reducible refine (C88h.out _ _ HL.out.rep).mono ?_); rintro e w4 ⟨rfl, h4, hl4⟩; have HL4 := Lib.hid (HL.out.trans hl4); clear hl4))
  go_ret
  exact ⟨rfl, h4, HL4.out⟩
set_option maxHeartbeats 2000000 in
set_option maxRecDepth 100000 in
theorem rint_empty3 (B xb : Nat) (h : RG) (a : A) (w : World) (r : RRep B xb h a w) (gd : Good a) (g2 : Good2 a) (y : Int) (hq : a.q (-4) = []) :
    Calls Try.prog 56 #[ptr xb, .int .i64 (-4), .int .i64 y] w (LeftR B xb h a w (.int .i64 5) a) := by
  have C67 := rdevice w (-4)
  rw [decide_eq_true (by decide)] at C67
  have C67h := Lib.hid C67
  have hkk : w.cell? ⟨xb, 5, none⟩ = some (h.qv (-4)) := by rw [cell_of r.blk]; rfl
  obtain ⟨va, vc, hqv⟩ := own_form (r.row (-4) (.inr (by decide)))
  rw [hqv, hq] at hkk
  have R := Lib.hid r
  clear C67 r gd g2 hq hqv
  go_enter Try.func56, Try.ntmps56
  go_wp2_with (go_at_call 67; (with_reducible refine C67h.out.mono ?_); rintro e w' ⟨rfl, rfl⟩)
  go_ret
  exact LeftR.still R.out _ (Below.refl _ _)
set_option maxHeartbeats 2000000 in
set_option maxRecDepth 100000 in
theorem rint_gone3 (B xb : Nat) (h : RG) (a : A) (w : World) (r : RRep B xb h a w) (gd : Good a) (g2 : Good2 a) (y x : Int) (l : List Int) (hq : a.q (-4) = x :: l) (hf : (a.pk x).frm ∉ a.tids) :
    Calls Try.prog 56 #[ptr xb, .int .i64 (-4), .int .i64 y] w (LeftR B xb h a w (.int .i64 5) (ownA a x 0)) := by
  have C67 := rdevice w (-4)
  rw [decide_eq_true (by decide)] at C67
  have C67h := Lib.hid C67
  have hkk : w.cell? ⟨xb, 5, none⟩ = some (h.qv (-4)) := by rw [cell_of r.blk]; rfl
  have hxq : x ∈ a.q (-4) := by rw [hq]; simp
  have hpq := gd.qin (-4) (.inr (by decide)) x hxq
  have hx := hpq.1
  have hrow := r.row (-4) (.inr (by decide))
  obtain ⟨gq, cq, hqv, _, _, _, cur, hqb, _, _, hqc⟩ := own_cell hrow (by rw [hq]; simp)
  have z0 : w.cell? ⟨gq, 0, none⟩ = some (.int .i64 x) := by
    have := hqc 0 (by rw [hq]; simp)
    rw [hq] at this
    simpa using this
  have hql := gd.qlen (i := (-4)) (.inr (by decide))
  rw [hqv, hq] at hkk
  rw [hq] at hql
  simp only [List.length_cons] at hql
  have C65 := rtake B xb h a w r gd x 0 hx (by rw [hpq.2]; exact .inr (by decide))
  have hr := gd.pkr x hx
  have hmade := gd.made
  have hN := made_len gd
  have C64 := rthere B xb h a w r gd g2 x
  rw [decide_eq_true hx] at C64
  obtain ⟨n, rfl⟩ : ∃ n : Nat, x = (n : Int) + 1 := ⟨(x - 1).toNat, by omega⟩
  obtain ⟨g, pc, hpv, ⟨pcur, hpb⟩, hc⟩ := r.pcells gd (n := n) (by omega)
  have k1 := r.k1
  rw [hpv] at k1
  have hnl : n < (pnums a.made).length := by omega
  have hn200 : n ≤ 200 := by omega
  have q4 : w.cell? ⟨g, n * 7 + 4, none⟩ = some (.int .i64 (a.pk ((n : Int) + 1)).at_) := by have := hc 4 (by omega); simp only [rpc, rpk_in hx] at this; exact this
  have q5 : w.cell? ⟨g, n * 7 + 5, none⟩ = some (.int .i64 (a.pk ((n : Int) + 1)).frm) := by have := hc 5 (by omega); simp only [rpc, rpk_in hx] at this; exact this
  have q6 : w.cell? ⟨g, n * 7 + 6, none⟩ = some (.int .i64 (a.pk ((n : Int) + 1)).wth) := by have := hc 6 (by omega); simp only [rpc, rpk_in hx] at this; exact this
  have C65h := Lib.hid C65
  have hlt := nodup_bound 20 a.tids gd.tnd (fun x hx => gd.trng x hx)
  have C62 := rfind B xb h a w r gd.tnd (by omega) (a.pk ((n : Int) + 1)).frm
  rw [posF_out hf] at C62
  have C62h := Lib.hid C62
  clear C67 C62 C65 r gd g2 hx hc hpv hpb hr hmade hN C64 hq hf hxq hpq hrow hqv hqb hqc
  go_enter Try.func56, Try.ntmps56
  go_wp2_with (first | (go_at_call 67; (with_reducible refine C67h.out.mono ?_); rintro e w' ⟨rfl, rfl⟩) | (go_at_call 62; (with_reducible refine C62h.out.mono ?_); rintro e w' ⟨rfl, rfl⟩) | (go_at_call 65; (with_reducible refine C65h.out.mono ?_); rintro e w' ⟨rfl, h2, hl2⟩; have HL := Lib.hid hl2; clear hl2))
  go_ret
  exact ⟨rfl, h2, HL.out⟩
set_option maxHeartbeats 2000000 in
set_option maxRecDepth 100000 in
theorem rint_ok3 (B xb : Nat) (h : RG) (a : A) (w : World) (r : RRep B xb h a w) (gd : Good a) (g2 : Good2 a) (y x : Int) (l : List Int) (hq : a.q (-4) = x :: l) (hf : (a.pk x).frm ∈ a.tids) (hm : a.moves.length ≤ 100000) :
    Calls Try.prog 56 #[ptr xb, .int .i64 (-4), .int .i64 y] w (LeftR B xb h a w (.int .i64 0) (moveR (resA (ownA a x 0) x y) x (-4) (a.pk x).frm)) := by
  have C67 := rdevice w (-4)
  rw [decide_eq_true (by decide)] at C67
  have C67h := Lib.hid C67
  have hkk : w.cell? ⟨xb, 5, none⟩ = some (h.qv (-4)) := by rw [cell_of r.blk]; rfl
  have hxq : x ∈ a.q (-4) := by rw [hq]; simp
  have hpq := gd.qin (-4) (.inr (by decide)) x hxq
  have hx := hpq.1
  have hrow := r.row (-4) (.inr (by decide))
  obtain ⟨gq, cq, hqv, _, _, _, cur, hqb, _, _, hqc⟩ := own_cell hrow (by rw [hq]; simp)
  have z0 : w.cell? ⟨gq, 0, none⟩ = some (.int .i64 x) := by
    have := hqc 0 (by rw [hq]; simp)
    rw [hq] at this
    simpa using this
  have hql := gd.qlen (i := (-4)) (.inr (by decide))
  rw [hqv, hq] at hkk
  rw [hq] at hql
  simp only [List.length_cons] at hql
  have C65 := rtake B xb h a w r gd x 0 hx (by rw [hpq.2]; exact .inr (by decide))
  have hr := gd.pkr x hx
  have hmade := gd.made
  have hN := made_len gd
  have C64 := rthere B xb h a w r gd g2 x
  rw [decide_eq_true hx] at C64
  obtain ⟨n, rfl⟩ : ∃ n : Nat, x = (n : Int) + 1 := ⟨(x - 1).toNat, by omega⟩
  obtain ⟨g, pc, hpv, ⟨pcur, hpb⟩, hc⟩ := r.pcells gd (n := n) (by omega)
  have k1 := r.k1
  rw [hpv] at k1
  have hnl : n < (pnums a.made).length := by omega
  have hn200 : n ≤ 200 := by omega
  have q4 : w.cell? ⟨g, n * 7 + 4, none⟩ = some (.int .i64 (a.pk ((n : Int) + 1)).at_) := by have := hc 4 (by omega); simp only [rpc, rpk_in hx] at this; exact this
  have q5 : w.cell? ⟨g, n * 7 + 5, none⟩ = some (.int .i64 (a.pk ((n : Int) + 1)).frm) := by have := hc 5 (by omega); simp only [rpc, rpk_in hx] at this; exact this
  have q6 : w.cell? ⟨g, n * 7 + 6, none⟩ = some (.int .i64 (a.pk ((n : Int) + 1)).wth) := by have := hc 6 (by omega); simp only [rpc, rpk_in hx] at this; exact this
  have C65h := Lib.hid C65
  have hlt := nodup_bound 20 a.tids gd.tnd (fun x hx => gd.trng x hx)
  have C62 := rfind B xb h a w r gd.tnd (by omega) (a.pk ((n : Int) + 1)).frm
  obtain ⟨m, hm1, hm2, hm3⟩ := posF_in hf
  rw [hm1] at C62
  have C62h := Lib.hid C62
  have gd1 := good_own gd ((n : Int) + 1) 0 hx
  have gd2 := good_res gd1 ((n : Int) + 1) y
  have C88h := Lib.hid (fun (h' : RG) (w' : World) (hr : RRep B xb h' (resA (ownA a ((n : Int) + 1) 0) ((n : Int) + 1) y) w') => renq B xb h' _ w' hr gd2 ((n : Int) + 1) (-4) (a.pk ((n : Int) + 1)).frm hx (.inl hf) hm)
  have HX := Lib.hid hx
  have G1 := Lib.hid gd1
  have hmd : (n : Int) < (ownA a ((n : Int) + 1) 0).made := by show (n : Int) < a.made; omega
  clear C67 C62 C65 r gd g2 hx hc hpv hpb hr hmade hN C64 hq hf hxq hpq hrow hqv hqb hqc gd1 gd2 hm1 hm2
  go_enter Try.func56, Try.ntmps56
  go_wp2_with (first | (go_at_call 67; (with_reducible refine C67h.out.mono ?_); rintro e w' ⟨rfl, rfl⟩) | (go_at_call 62; (with_reducible refine C62h.out.mono ?_); rintro e w' ⟨rfl, rfl⟩) | (go_at_call 65; (with_reducible refine C65h.out.mono ?_); rintro e w2 ⟨rfl, h2, hl2⟩; (obtain ⟨g2, pc2, hpv2, ⟨pcur2, hpb2⟩, hc2⟩ := hl2.rep.pcells G1.out (n := n) hmd); have k12 := hl2.rep.k1; rw [hpv2] at k12; have x2 : w2.cell? ⟨g2, n * 7 + 2, none⟩ = some (.int .i64 (rpk (ownA a ((n : Int) + 1) 0) ((n : Int) + 1)).res) := hc2 2 (by omega); have f2 : w2.frozen? ⟨g2, n * 7 + 2, none⟩ = false := free_of hpb2 _; have HL := Lib.hid (hl2.trans (rset_res hl2.rep HX.out hmd (by rw [hpv2]; rfl) y)); clear hl2 hpv2 hpb2 hc2) | (go_at_call 88; (with_reducible refine (C88h.out _ _ HL.out.rep).mono ?_); rintro e w4 ⟨rfl, h4, hl4⟩; have HL4 := Lib.hid (HL.out.trans hl4); clear hl4))
  go_ret
  exact ⟨rfl, h4, HL4.out⟩
set_option maxHeartbeats 2000000 in
set_option maxRecDepth 100000 in
theorem rint_empty4 (B xb : Nat) (h : RG) (a : A) (w : World) (r : RRep B xb h a w) (gd : Good a) (g2 : Good2 a) (y : Int) (hq : a.q (-5) = []) :
    Calls Try.prog 56 #[ptr xb, .int .i64 (-5), .int .i64 y] w (LeftR B xb h a w (.int .i64 5) a) := by
  have C67 := rdevice w (-5)
  rw [decide_eq_true (by decide)] at C67
  have C67h := Lib.hid C67
  have hkk : w.cell? ⟨xb, 6, none⟩ = some (h.qv (-5)) := by rw [cell_of r.blk]; rfl
  obtain ⟨va, vc, hqv⟩ := own_form (r.row (-5) (.inr (by decide)))
  rw [hqv, hq] at hkk
  have R := Lib.hid r
  clear C67 r gd g2 hq hqv
  go_enter Try.func56, Try.ntmps56
  go_wp2_with (go_at_call 67; (with_reducible refine C67h.out.mono ?_); rintro e w' ⟨rfl, rfl⟩)
  go_ret
  exact LeftR.still R.out _ (Below.refl _ _)
set_option maxHeartbeats 2000000 in
set_option maxRecDepth 100000 in
theorem rint_gone4 (B xb : Nat) (h : RG) (a : A) (w : World) (r : RRep B xb h a w) (gd : Good a) (g2 : Good2 a) (y x : Int) (l : List Int) (hq : a.q (-5) = x :: l) (hf : (a.pk x).frm ∉ a.tids) :
    Calls Try.prog 56 #[ptr xb, .int .i64 (-5), .int .i64 y] w (LeftR B xb h a w (.int .i64 5) (ownA a x 0)) := by
  have C67 := rdevice w (-5)
  rw [decide_eq_true (by decide)] at C67
  have C67h := Lib.hid C67
  have hkk : w.cell? ⟨xb, 6, none⟩ = some (h.qv (-5)) := by rw [cell_of r.blk]; rfl
  have hxq : x ∈ a.q (-5) := by rw [hq]; simp
  have hpq := gd.qin (-5) (.inr (by decide)) x hxq
  have hx := hpq.1
  have hrow := r.row (-5) (.inr (by decide))
  obtain ⟨gq, cq, hqv, _, _, _, cur, hqb, _, _, hqc⟩ := own_cell hrow (by rw [hq]; simp)
  have z0 : w.cell? ⟨gq, 0, none⟩ = some (.int .i64 x) := by
    have := hqc 0 (by rw [hq]; simp)
    rw [hq] at this
    simpa using this
  have hql := gd.qlen (i := (-5)) (.inr (by decide))
  rw [hqv, hq] at hkk
  rw [hq] at hql
  simp only [List.length_cons] at hql
  have C65 := rtake B xb h a w r gd x 0 hx (by rw [hpq.2]; exact .inr (by decide))
  have hr := gd.pkr x hx
  have hmade := gd.made
  have hN := made_len gd
  have C64 := rthere B xb h a w r gd g2 x
  rw [decide_eq_true hx] at C64
  obtain ⟨n, rfl⟩ : ∃ n : Nat, x = (n : Int) + 1 := ⟨(x - 1).toNat, by omega⟩
  obtain ⟨g, pc, hpv, ⟨pcur, hpb⟩, hc⟩ := r.pcells gd (n := n) (by omega)
  have k1 := r.k1
  rw [hpv] at k1
  have hnl : n < (pnums a.made).length := by omega
  have hn200 : n ≤ 200 := by omega
  have q4 : w.cell? ⟨g, n * 7 + 4, none⟩ = some (.int .i64 (a.pk ((n : Int) + 1)).at_) := by have := hc 4 (by omega); simp only [rpc, rpk_in hx] at this; exact this
  have q5 : w.cell? ⟨g, n * 7 + 5, none⟩ = some (.int .i64 (a.pk ((n : Int) + 1)).frm) := by have := hc 5 (by omega); simp only [rpc, rpk_in hx] at this; exact this
  have q6 : w.cell? ⟨g, n * 7 + 6, none⟩ = some (.int .i64 (a.pk ((n : Int) + 1)).wth) := by have := hc 6 (by omega); simp only [rpc, rpk_in hx] at this; exact this
  have C65h := Lib.hid C65
  have hlt := nodup_bound 20 a.tids gd.tnd (fun x hx => gd.trng x hx)
  have C62 := rfind B xb h a w r gd.tnd (by omega) (a.pk ((n : Int) + 1)).frm
  rw [posF_out hf] at C62
  have C62h := Lib.hid C62
  clear C67 C62 C65 r gd g2 hx hc hpv hpb hr hmade hN C64 hq hf hxq hpq hrow hqv hqb hqc
  go_enter Try.func56, Try.ntmps56
  go_wp2_with (first | (go_at_call 67; (with_reducible refine C67h.out.mono ?_); rintro e w' ⟨rfl, rfl⟩) | (go_at_call 62; (with_reducible refine C62h.out.mono ?_); rintro e w' ⟨rfl, rfl⟩) | (go_at_call 65; (with_reducible refine C65h.out.mono ?_); rintro e w' ⟨rfl, h2, hl2⟩; have HL := Lib.hid hl2; clear hl2))
  go_ret
  exact ⟨rfl, h2, HL.out⟩
set_option maxHeartbeats 2000000 in
set_option maxRecDepth 100000 in
theorem rint_ok4 (B xb : Nat) (h : RG) (a : A) (w : World) (r : RRep B xb h a w) (gd : Good a) (g2 : Good2 a) (y x : Int) (l : List Int) (hq : a.q (-5) = x :: l) (hf : (a.pk x).frm ∈ a.tids) (hm : a.moves.length ≤ 100000) :
    Calls Try.prog 56 #[ptr xb, .int .i64 (-5), .int .i64 y] w (LeftR B xb h a w (.int .i64 0) (moveR (resA (ownA a x 0) x y) x (-5) (a.pk x).frm)) := by
  have C67 := rdevice w (-5)
  rw [decide_eq_true (by decide)] at C67
  have C67h := Lib.hid C67
  have hkk : w.cell? ⟨xb, 6, none⟩ = some (h.qv (-5)) := by rw [cell_of r.blk]; rfl
  have hxq : x ∈ a.q (-5) := by rw [hq]; simp
  have hpq := gd.qin (-5) (.inr (by decide)) x hxq
  have hx := hpq.1
  have hrow := r.row (-5) (.inr (by decide))
  obtain ⟨gq, cq, hqv, _, _, _, cur, hqb, _, _, hqc⟩ := own_cell hrow (by rw [hq]; simp)
  have z0 : w.cell? ⟨gq, 0, none⟩ = some (.int .i64 x) := by
    have := hqc 0 (by rw [hq]; simp)
    rw [hq] at this
    simpa using this
  have hql := gd.qlen (i := (-5)) (.inr (by decide))
  rw [hqv, hq] at hkk
  rw [hq] at hql
  simp only [List.length_cons] at hql
  have C65 := rtake B xb h a w r gd x 0 hx (by rw [hpq.2]; exact .inr (by decide))
  have hr := gd.pkr x hx
  have hmade := gd.made
  have hN := made_len gd
  have C64 := rthere B xb h a w r gd g2 x
  rw [decide_eq_true hx] at C64
  obtain ⟨n, rfl⟩ : ∃ n : Nat, x = (n : Int) + 1 := ⟨(x - 1).toNat, by omega⟩
  obtain ⟨g, pc, hpv, ⟨pcur, hpb⟩, hc⟩ := r.pcells gd (n := n) (by omega)
  have k1 := r.k1
  rw [hpv] at k1
  have hnl : n < (pnums a.made).length := by omega
  have hn200 : n ≤ 200 := by omega
  have q4 : w.cell? ⟨g, n * 7 + 4, none⟩ = some (.int .i64 (a.pk ((n : Int) + 1)).at_) := by have := hc 4 (by omega); simp only [rpc, rpk_in hx] at this; exact this
  have q5 : w.cell? ⟨g, n * 7 + 5, none⟩ = some (.int .i64 (a.pk ((n : Int) + 1)).frm) := by have := hc 5 (by omega); simp only [rpc, rpk_in hx] at this; exact this
  have q6 : w.cell? ⟨g, n * 7 + 6, none⟩ = some (.int .i64 (a.pk ((n : Int) + 1)).wth) := by have := hc 6 (by omega); simp only [rpc, rpk_in hx] at this; exact this
  have C65h := Lib.hid C65
  have hlt := nodup_bound 20 a.tids gd.tnd (fun x hx => gd.trng x hx)
  have C62 := rfind B xb h a w r gd.tnd (by omega) (a.pk ((n : Int) + 1)).frm
  obtain ⟨m, hm1, hm2, hm3⟩ := posF_in hf
  rw [hm1] at C62
  have C62h := Lib.hid C62
  have gd1 := good_own gd ((n : Int) + 1) 0 hx
  have gd2 := good_res gd1 ((n : Int) + 1) y
  have C88h := Lib.hid (fun (h' : RG) (w' : World) (hr : RRep B xb h' (resA (ownA a ((n : Int) + 1) 0) ((n : Int) + 1) y) w') => renq B xb h' _ w' hr gd2 ((n : Int) + 1) (-5) (a.pk ((n : Int) + 1)).frm hx (.inl hf) hm)
  have HX := Lib.hid hx
  have G1 := Lib.hid gd1
  have hmd : (n : Int) < (ownA a ((n : Int) + 1) 0).made := by show (n : Int) < a.made; omega
  clear C67 C62 C65 r gd g2 hx hc hpv hpb hr hmade hN C64 hq hf hxq hpq hrow hqv hqb hqc gd1 gd2 hm1 hm2
  go_enter Try.func56, Try.ntmps56
  go_wp2_with (first | (go_at_call 67; (with_reducible refine C67h.out.mono ?_); rintro e w' ⟨rfl, rfl⟩) | (go_at_call 62; (with_reducible refine C62h.out.mono ?_); rintro e w' ⟨rfl, rfl⟩) | (go_at_call 65; (with_reducible refine C65h.out.mono ?_); rintro e w2 ⟨rfl, h2, hl2⟩; (obtain ⟨g2, pc2, hpv2, ⟨pcur2, hpb2⟩, hc2⟩ := hl2.rep.pcells G1.out (n := n) hmd); have k12 := hl2.rep.k1; rw [hpv2] at k12; have x2 : w2.cell? ⟨g2, n * 7 + 2, none⟩ = some (.int .i64 (rpk (ownA a ((n : Int) + 1) 0) ((n : Int) + 1)).res) := hc2 2 (by omega); have f2 : w2.frozen? ⟨g2, n * 7 + 2, none⟩ = false := free_of hpb2 _; have HL := Lib.hid (hl2.trans (rset_res hl2.rep HX.out hmd (by rw [hpv2]; rfl) y)); clear hl2 hpv2 hpb2 hc2) | (go_at_call 88; (with_reducible refine (C88h.out _ _ HL.out.rep).mono ?_); rintro e w4 ⟨rfl, h4, hl4⟩; have HL4 := Lib.hid (HL.out.trans hl4); clear hl4))
  go_ret
  exact ⟨rfl, h4, HL4.out⟩
set_option maxHeartbeats 2000000 in
set_option maxRecDepth 100000 in
theorem rpri_none (B xb : Nat) (h : RG) (a : A) (w : World) (r : RRep B xb h a w) (gd : Good a) (g2 : Good2 a) (x y : Int) (hx : x ∉ a.tids) :
    Calls Try.prog 63 #[ptr xb, .int .i64 x, .int .i64 y] w (LeftR B xb h a w (.int .i64 190) a) := by
  have hlt := nodup_bound 20 a.tids gd.tnd (fun x hx => gd.trng x hx)
  have C62 := rfind B xb h a w r gd.tnd (by omega) x
  rw [posF_out hx] at C62
  have C62h := Lib.hid C62
  have R := Lib.hid r
  clear C62 r gd g2 hx
  go_enter Try.func63, Try.ntmps63
  go_wp2_with (go_at_call 62; (with_reducible refine C62h.out.mono ?_); rintro e w' ⟨rfl, rfl⟩)
  go_ret
  exact LeftR.still R.out _ (Below.refl _ _)
set_option maxHeartbeats 2000000 in
set_option maxRecDepth 100000 in
theorem rpri_range (B xb : Nat) (h : RG) (a : A) (w : World) (r : RRep B xb h a w) (gd : Good a) (g2 : Good2 a) (x y : Int) (hx : x ∈ a.tids) (hy : ¬ (1 ≤ y ∧ y ≤ 1000)) :
    Calls Try.prog 63 #[ptr xb, .int .i64 x, .int .i64 y] w (LeftR B xb h a w (.int .i64 1) a) := by
  have hlt := nodup_bound 20 a.tids gd.tnd (fun x hx => gd.trng x hx)
  obtain ⟨m, hm1, hm2, hm3⟩ := posF_in hx
  have D62 := Lib.hid (show ∀ w', RRep B xb h a w' → Calls Try.prog 62 #[ptr xb, .int .i64 x] w' fun e w'' => e = .returned (.int .i64 m) ∧ w' = w'' from fun w' hr => by
    have := rfind B xb h a w' hr gd.tnd (by omega) x
    rw [hm1] at this
    exact this)
  obtain ⟨gt, ct, hv, ⟨tcur, htb⟩, hct⟩ := row_cells (f := rtc a h.qv) (sz := 7) (fun _ => rfl) r.trow hm2
  have k0 := r.k0
  rw [hv] at k0
  have t3 : w.cell? ⟨gt, m * 7 + 3, none⟩ = some (.bool (a.tk x).waiting) := hct 3 (by omega)
  have t4 : w.cell? ⟨gt, m * 7 + 4, none⟩ = some (.int .i64 (a.tk x).forr) := hct 4 (by omega)
  have t5 : w.cell? ⟨gt, m * 7 + 5, none⟩ = some (.int .i64 (a.tk x).flags) := hct 5 (by omega)
  have t6 : w.cell? ⟨gt, m * 7 + 6, none⟩ = some (h.qv x) := hct 6 (by omega)
  have tf : ∀ j, w.frozen? ⟨gt, j, none⟩ = false := fun j => free_of htb j
  have tf3 := tf (m * 7 + 3)
  have tf4 := tf (m * 7 + 4)
  have tf5 := tf (m * 7 + 5)
  have hm20 : m ≤ 20 := by omega
  have HTG := Lib.hid (show h.tv.ownBlock = some gt by rw [hv]; rfl)
  have HM2 := Lib.hid hm2
  have R := Lib.hid r
  by_cases h1 : y < 1
  · have d1 : decide (y < 1) = true := by simp; omega
    clear r gd g2 hx hm1 hm2 hct hv htb tf hy h1
    go_enter Try.func63, Try.ntmps63
    go_wp2_with (go_at_call 62; (with_reducible refine (D62.out _ R.out).mono ?_); rintro e w' ⟨rfl, rfl⟩)
    go_ret
    exact LeftR.still R.out _ (Below.refl _ _)
  · have d1 : decide (y < 1) = false := by simp; omega
    have d2 : decide (1000 < y) = true := by simp; omega
    clear r gd g2 hx hm1 hm2 hct hv htb tf hy h1
    go_enter Try.func63, Try.ntmps63
    go_wp2_with (go_at_call 62; (with_reducible refine (D62.out _ R.out).mono ?_); rintro e w' ⟨rfl, rfl⟩)
    go_ret
    exact LeftR.still R.out _ (Below.refl _ _)
theorem takenA_iff (a : A) (y x : Int) : takenA a y x = true ↔ ∃ i ∈ a.tids, (a.tk i).pri = y ∧ i ≠ x := by
  unfold takenA
  rw [List.any_eq_true]
  constructor
  · rintro ⟨i, hi, h⟩
    simp at h
    exact ⟨i, hi, h⟩
  · rintro ⟨i, hi, h1, h2⟩
    exact ⟨i, hi, by simp [h1, h2]⟩
set_option maxHeartbeats 2000000 in
set_option maxRecDepth 100000 in
theorem rpri_twice (B xb : Nat) (h : RG) (a : A) (w : World) (r : RRep B xb h a w) (gd : Good a) (g2 : Good2 a) (x y : Int) (hx : x ∈ a.tids) (hy : 1 ≤ y ∧ y ≤ 1000) (ht : takenA a y x = true) :
    Calls Try.prog 63 #[ptr xb, .int .i64 x, .int .i64 y] w (LeftR B xb h a w (.int .i64 6) a) := by
  have hlt := nodup_bound 20 a.tids gd.tnd (fun x hx => gd.trng x hx)
  obtain ⟨m, hm1, hm2, hm3⟩ := posF_in hx
  have D62 := Lib.hid (show ∀ w', RRep B xb h a w' → Calls Try.prog 62 #[ptr xb, .int .i64 x] w' fun e w'' => e = .returned (.int .i64 m) ∧ w' = w'' from fun w' hr => by
    have := rfind B xb h a w' hr gd.tnd (by omega) x
    rw [hm1] at this
    exact this)
  obtain ⟨gt, ct, hv, ⟨tcur, htb⟩, hct⟩ := row_cells (f := rtc a h.qv) (sz := 7) (fun _ => rfl) r.trow hm2
  have k0 := r.k0
  rw [hv] at k0
  have t3 : w.cell? ⟨gt, m * 7 + 3, none⟩ = some (.bool (a.tk x).waiting) := hct 3 (by omega)
  have t4 : w.cell? ⟨gt, m * 7 + 4, none⟩ = some (.int .i64 (a.tk x).forr) := hct 4 (by omega)
  have t5 : w.cell? ⟨gt, m * 7 + 5, none⟩ = some (.int .i64 (a.tk x).flags) := hct 5 (by omega)
  have t6 : w.cell? ⟨gt, m * 7 + 6, none⟩ = some (h.qv x) := hct 6 (by omega)
  have tf : ∀ j, w.frozen? ⟨gt, j, none⟩ = false := fun j => free_of htb j
  have tf3 := tf (m * 7 + 3)
  have tf4 := tf (m * 7 + 4)
  have tf5 := tf (m * 7 + 5)
  have hm20 : m ≤ 20 := by omega
  have HTG := Lib.hid (show h.tv.ownBlock = some gt by rw [hv]; rfl)
  have HM2 := Lib.hid hm2
  have HTV := Lib.hid hv
  have R := Lib.hid r
  have GD := Lib.hid gd
  have d1 : decide (y < 1) = false := by simp; omega
  have d2 : decide (1000 < y) = false := by simp; omega
  have t1 : w.cell? ⟨gt, m * 7 + 1, none⟩ = some (.int .i64 (a.tk x).pri) := hct 1 (by omega)
  have tf1 := tf (m * 7 + 1)
  have HT := Lib.hid ht
  clear r gd g2 hx hm1 hm2 hct hv htb tf hy ht
  go_enter Try.func63, Try.ntmps63
  go_wp2_with (go_at_call 62; (with_reducible refine (D62.out _ R.out).mono ?_); rintro e w' ⟨rfl, rfl⟩)
  go_loop [8] (fun t => ∃ k : Nat, k ≤ a.tids.length ∧ t = .int .i64 k ∧ ∀ j i, j < k → a.tids[j]? = some i → i ≠ x → (a.tk i).pri ≠ y) (fun t => a.tids.length - (intOf t).toNat)
  case atStart => exact ⟨0, Nat.zero_le _, rfl, fun j i hj => absurd hj (by omega)⟩
  case round =>
    obtain ⟨k, hk, rfl, hne⟩ := hrel
    have HNE := Lib.hid hne
    clear hne
    by_cases hlk : k < a.tids.length
    · have hd : decide ((k : Int) < (a.tids.length : Int)) = true := by simpa using hlk
      obtain ⟨z, hz⟩ : ∃ z, a.tids[k]? = some z := ⟨_, List.getElem?_eq_getElem hlk⟩
      obtain ⟨gz, cz, hvz, _, hcz⟩ := row_cells (f := rtc a h.qv) (sz := 7) (fun _ => rfl) R.out.trow hz
      rw [HTV.out] at hvz
      simp only [Value.slice.injEq, Option.some.injEq, Addr.mk.injEq] at hvz
      obtain ⟨⟨hgz, -⟩, -, -⟩ := hvz
      rw [← hgz] at hcz
      have q1 : w.cell? ⟨gt, k * 7 + 1, none⟩ = some (.int .i64 (a.tk z).pri) := hcz 1 (by omega)
      have HZ := Lib.hid hz
      by_cases hkm : k = m
      · have hb : ((k : Int) != (m : Int)) = false := by simp [hkm]
        have HKM := Lib.hid hkm
        clear hcz hz hkm hgz
        go_wp2_with fail
        go_round
        case rel =>
          refine ⟨k + 1, by omega, by go_num, fun j i hj hi hix => ?_⟩
          by_cases hjk : j = k
          · subst hjk
            have h1 := HM2.out
            rw [← HKM.out, hi] at h1
            exact absurd (Option.some.inj h1) hix
          · exact HNE.out j i (by omega) hi hix
        case measure => simp [intOf]; omega
      · have hb : ((k : Int) != (m : Int)) = true := by simp; omega
        have HKM := Lib.hid hkm
        clear hcz hz hkm hgz
        by_cases hpy : (a.tk z).pri = y
        · have hb2 : ((a.tk z).pri == y) = true := by simp [hpy]
          have HPY := Lib.hid hpy
          clear hpy
          go_wp2_with fail
          go_ret
          exact LeftR.still R.out _ (Below.refl _ _)
        · have hb2 : ((a.tk z).pri == y) = false := by simp [hpy]
          have HPY := Lib.hid hpy
          clear hpy
          go_wp2_with fail
          go_round
          case rel =>
            refine ⟨k + 1, by omega, by go_num, fun j i hj hi hix => ?_⟩
            by_cases hjk : j = k
            · subst hjk
              have h1 := HZ.out
              rw [hi] at h1
              rw [Option.some.inj h1]
              exact HPY.out
            · exact HNE.out j i (by omega) hi hix
          case measure => simp [intOf]; omega
    · have hkl : k = a.tids.length := by omega
      subst hkl
      have hd : decide ((a.tids.length : Int) < (a.tids.length : Int)) = false := by simp
      exfalso
      obtain ⟨i, hi, hp, hix⟩ := (takenA_iff a y x).1 HT.out
      obtain ⟨j, hj, hji⟩ := List.getElem_of_mem hi
      exact HNE.out j i hj (by rw [List.getElem?_eq_getElem hj, hji]) hix hp
set_option maxHeartbeats 2000000 in
set_option maxRecDepth 100000 in
theorem rpri_ok (B xb : Nat) (h : RG) (a : A) (w : World) (r : RRep B xb h a w) (gd : Good a) (g2 : Good2 a) (x y : Int) (hx : x ∈ a.tids) (hy : 1 ≤ y ∧ y ≤ 1000) (ht : takenA a y x = false) :
    Calls Try.prog 63 #[ptr xb, .int .i64 x, .int .i64 y] w (LeftR B xb h a w (.int .i64 0) (priA a x y)) := by
  have hlt := nodup_bound 20 a.tids gd.tnd (fun x hx => gd.trng x hx)
  obtain ⟨m, hm1, hm2, hm3⟩ := posF_in hx
  have D62 := Lib.hid (show ∀ w', RRep B xb h a w' → Calls Try.prog 62 #[ptr xb, .int .i64 x] w' fun e w'' => e = .returned (.int .i64 m) ∧ w' = w'' from fun w' hr => by
    have := rfind B xb h a w' hr gd.tnd (by omega) x
    rw [hm1] at this
    exact this)
  obtain ⟨gt, ct, hv, ⟨tcur, htb⟩, hct⟩ := row_cells (f := rtc a h.qv) (sz := 7) (fun _ => rfl) r.trow hm2
  have k0 := r.k0
  rw [hv] at k0
  have t3 : w.cell? ⟨gt, m * 7 + 3, none⟩ = some (.bool (a.tk x).waiting) := hct 3 (by omega)
  have t4 : w.cell? ⟨gt, m * 7 + 4, none⟩ = some (.int .i64 (a.tk x).forr) := hct 4 (by omega)
  have t5 : w.cell? ⟨gt, m * 7 + 5, none⟩ = some (.int .i64 (a.tk x).flags) := hct 5 (by omega)
  have t6 : w.cell? ⟨gt, m * 7 + 6, none⟩ = some (h.qv x) := hct 6 (by omega)
  have tf : ∀ j, w.frozen? ⟨gt, j, none⟩ = false := fun j => free_of htb j
  have tf3 := tf (m * 7 + 3)
  have tf4 := tf (m * 7 + 4)
  have tf5 := tf (m * 7 + 5)
  have hm20 : m ≤ 20 := by omega
  have HTG := Lib.hid (show h.tv.ownBlock = some gt by rw [hv]; rfl)
  have HM2 := Lib.hid hm2
  have HTV := Lib.hid hv
  have R := Lib.hid r
  have GD := Lib.hid gd
  have d1 : decide (y < 1) = false := by simp; omega
  have d2 : decide (1000 < y) = false := by simp; omega
  have t1 : w.cell? ⟨gt, m * 7 + 1, none⟩ = some (.int .i64 (a.tk x).pri) := hct 1 (by omega)
  have tf1 := tf (m * 7 + 1)
  have HT := Lib.hid ht
  clear r gd g2 hx hm1 hm2 hct hv htb tf hy ht
  go_enter Try.func63, Try.ntmps63
  go_wp2_with (go_at_call 62; (with_reducible refine (D62.out _ R.out).mono ?_); rintro e w' ⟨rfl, rfl⟩)
  go_loop [8] (fun t => ∃ k : Nat, k ≤ a.tids.length ∧ t = .int .i64 k ∧ ∀ j i, j < k → a.tids[j]? = some i → i ≠ x → (a.tk i).pri ≠ y) (fun t => a.tids.length - (intOf t).toNat)
  case atStart => exact ⟨0, Nat.zero_le _, rfl, fun j i hj => absurd hj (by omega)⟩
  case round =>
    obtain ⟨k, hk, rfl, hne⟩ := hrel
    have HNE := Lib.hid hne
    clear hne
    by_cases hlk : k < a.tids.length
    · have hd : decide ((k : Int) < (a.tids.length : Int)) = true := by simpa using hlk
      obtain ⟨z, hz⟩ : ∃ z, a.tids[k]? = some z := ⟨_, List.getElem?_eq_getElem hlk⟩
      obtain ⟨gz, cz, hvz, _, hcz⟩ := row_cells (f := rtc a h.qv) (sz := 7) (fun _ => rfl) R.out.trow hz
      rw [HTV.out] at hvz
      simp only [Value.slice.injEq, Option.some.injEq, Addr.mk.injEq] at hvz
      obtain ⟨⟨hgz, -⟩, -, -⟩ := hvz
      rw [← hgz] at hcz
      have q1 : w.cell? ⟨gt, k * 7 + 1, none⟩ = some (.int .i64 (a.tk z).pri) := hcz 1 (by omega)
      have HZ := Lib.hid hz
      by_cases hkm : k = m
      · have hb : ((k : Int) != (m : Int)) = false := by simp [hkm]
        have HKM := Lib.hid hkm
        clear hcz hz hkm hgz
        go_wp2_with fail
        go_round
        case rel =>
          refine ⟨k + 1, by omega, by go_num, fun j i hj hi hix => ?_⟩
          by_cases hjk : j = k
          · subst hjk
            have h1 := HM2.out
            rw [← HKM.out, hi] at h1
            exact absurd (Option.some.inj h1) hix
          · exact HNE.out j i (by omega) hi hix
        case measure => simp [intOf]; omega
      · have hb : ((k : Int) != (m : Int)) = true := by simp; omega
        have HKM := Lib.hid hkm
        clear hcz hz hkm hgz
        by_cases hpy : (a.tk z).pri = y
        · have hb2 : ((a.tk z).pri == y) = true := by simp [hpy]
          have HPY := Lib.hid hpy
          clear hpy
          exfalso
          have h1 := HT.out
          rw [(takenA_iff a y x).2 ⟨z, List.mem_of_getElem? HZ.out, HPY.out, fun e => HKM.out ((List.getElem?_inj hlk GD.out.tnd).1 (HZ.out.trans (e ▸ HM2.out.symm)))⟩] at h1
          cases h1
        · have hb2 : ((a.tk z).pri == y) = false := by simp [hpy]
          have HPY := Lib.hid hpy
          clear hpy
          go_wp2_with fail
          go_round
          case rel =>
            refine ⟨k + 1, by omega, by go_num, fun j i hj hi hix => ?_⟩
            by_cases hjk : j = k
            · subst hjk
              have h1 := HZ.out
              rw [hi] at h1
              rw [Option.some.inj h1]
              exact HPY.out
            · exact HNE.out j i (by omega) hi hix
          case measure => simp [intOf]; omega
    · have hkl : k = a.tids.length := by omega
      subst hkl
      have hd : decide ((a.tids.length : Int) < (a.tids.length : Int)) = false := by simp
      go_wp2_with fail
      go_ret
      exact ⟨rfl, _, R.out.setTk GD.out.tnd HM2.out HTG.out 1 (by omega) (.int .i64 y) { a.tk x with pri := y } (by simp [rtc, upd_same])⟩
set_option maxHeartbeats 2000000 in
set_option maxRecDepth 100000 in
theorem rmark_none (B xb : Nat) (h : RG) (a : A) (w : World) (r : RRep B xb h a w) (gd : Good a) (g2 : Good2 a) (d x y c3 c4 : Int) (hx : x ∉ a.tids) :
    Calls Try.prog 61 #[ptr xb, .agg #[.int .i64 d, .int .i64 x, .int .i64 y, .int .i64 c3, .int .i64 c4]] w (LeftR B xb h a w (.int .i64 190) a) := by
  have rb := r.below ((Below.refl _ _).alloc (Nat.le_refl _) (.cells #[.int .i64 d, .int .i64 x, .int .i64 y, .int .i64 c3, .int .i64 c4] 38))
  have hlt := nodup_bound 20 a.tids gd.tnd (fun x hx => gd.trng x hx)
  have C62 := rfind B xb h a _ rb gd.tnd (by omega) x
  rw [posF_out hx] at C62
  have C62h := Lib.hid C62
  have R := Lib.hid r
  clear C62 r gd g2 hx rb
  go_enter Try.func61, Try.ntmps61
  go_wp2_with (go_at_call 62; (with_reducible refine C62h.out.mono ?_); rintro e w' ⟨rfl, rfl⟩)
  go_ret
  exact LeftR.still R.out _ ((Below.refl _ _).alloc (Nat.le_refl _) _)
set_option maxHeartbeats 2000000 in
set_option maxRecDepth 100000 in
theorem rmark_hold (B xb : Nat) (h : RG) (a : A) (w : World) (r : RRep B xb h a w) (gd : Good a) (g2 : Good2 a) (x y c3 c4 : Int) (hx : x ∈ a.tids) :
    Calls Try.prog 61 #[ptr xb, .agg #[.int .i64 5, .int .i64 x, .int .i64 y, .int .i64 c3, .int .i64 c4]] w (LeftR B xb h a w (.int .i64 0) (heldA a x true)) := by
  have hlt := nodup_bound 20 a.tids gd.tnd (fun x hx => gd.trng x hx)
  obtain ⟨m, hm1, hm2, hm3⟩ := posF_in hx
  have D62 := Lib.hid (show ∀ w', RRep B xb h a w' → Calls Try.prog 62 #[ptr xb, .int .i64 x] w' fun e w'' => e = .returned (.int .i64 m) ∧ w' = w'' from fun w' hr => by
    have := rfind B xb h a w' hr gd.tnd (by omega) x
    rw [hm1] at this
    exact this)
  obtain ⟨gt, ct, hv, ⟨tcur, htb⟩, hct⟩ := row_cells (f := rtc a h.qv) (sz := 7) (fun _ => rfl) r.trow hm2
  have k0 := r.k0
  rw [hv] at k0
  have t3 : w.cell? ⟨gt, m * 7 + 3, none⟩ = some (.bool (a.tk x).waiting) := hct 3 (by omega)
  have t4 : w.cell? ⟨gt, m * 7 + 4, none⟩ = some (.int .i64 (a.tk x).forr) := hct 4 (by omega)
  have t5 : w.cell? ⟨gt, m * 7 + 5, none⟩ = some (.int .i64 (a.tk x).flags) := hct 5 (by omega)
  have t6 : w.cell? ⟨gt, m * 7 + 6, none⟩ = some (h.qv x) := hct 6 (by omega)
  have tf : ∀ j, w.frozen? ⟨gt, j, none⟩ = false := fun j => free_of htb j
  have tf3 := tf (m * 7 + 3)
  have tf4 := tf (m * 7 + 4)
  have tf5 := tf (m * 7 + 5)
  have hm20 : m ≤ 20 := by omega
  have HTG := Lib.hid (show h.tv.ownBlock = some gt by rw [hv]; rfl)
  have HM2 := Lib.hid hm2
  have t2 : w.cell? ⟨gt, m * 7 + 2, none⟩ = some (.bool (a.tk x).held) := hct 2 (by omega)
  have tf2 := tf (m * 7 + 2)
  have gtl := cell_lt t2
  have xl := cell_lt k0
  have hal := fun o => ((Below.refl w.heap.size w).alloc (Nat.le_refl _) o)
  have R := Lib.hid r
  have GD := Lib.hid gd
  have RB := Lib.hid (r.below ((Below.refl _ _).alloc (Nat.le_refl _) (.cells #[.int .i64 5, .int .i64 x, .int .i64 y, .int .i64 c3, .int .i64 c4] 38)))
  clear r gd g2 hx hm1 hm2 hct hv htb tf hal
  go_enter Try.func61, Try.ntmps61
  go_wp2_with (go_at_call 62; (with_reducible refine (D62.out _ RB.out).mono ?_); rintro e w' ⟨rfl, rfl⟩)
  go_ret
  have LS := R.out.setTk GD.out.tnd HM2.out HTG.out 2 (by omega) (.bool true) { a.tk x with held := true } (by simp [rtc, upd_same])
  have L := LS.trans (Left.refl LS.rep ((Below.refl _ _).alloc (Nat.le_refl _) (.cells #[.int .i64 5, .int .i64 x, .int .i64 y, .int .i64 c3, .int .i64 c4] 38)))
  exact ⟨rfl, _, L⟩
set_option maxHeartbeats 2000000 in
set_option maxRecDepth 100000 in
theorem rmark_release (B xb : Nat) (h : RG) (a : A) (w : World) (r : RRep B xb h a w) (gd : Good a) (g2 : Good2 a) (x y c3 c4 : Int) (hx : x ∈ a.tids) :
    Calls Try.prog 61 #[ptr xb, .agg #[.int .i64 6, .int .i64 x, .int .i64 y, .int .i64 c3, .int .i64 c4]] w (LeftR B xb h a w (.int .i64 0) (heldA a x false)) := by
  have hlt := nodup_bound 20 a.tids gd.tnd (fun x hx => gd.trng x hx)
  obtain ⟨m, hm1, hm2, hm3⟩ := posF_in hx
  have D62 := Lib.hid (show ∀ w', RRep B xb h a w' → Calls Try.prog 62 #[ptr xb, .int .i64 x] w' fun e w'' => e = .returned (.int .i64 m) ∧ w' = w'' from fun w' hr => by
    have := rfind B xb h a w' hr gd.tnd (by omega) x
    rw [hm1] at this
    exact this)
  obtain ⟨gt, ct, hv, ⟨tcur, htb⟩, hct⟩ := row_cells (f := rtc a h.qv) (sz := 7) (fun _ => rfl) r.trow hm2
  have k0 := r.k0
  rw [hv] at k0
  have t3 : w.cell? ⟨gt, m * 7 + 3, none⟩ = some (.bool (a.tk x).waiting) := hct 3 (by omega)
  have t4 : w.cell? ⟨gt, m * 7 + 4, none⟩ = some (.int .i64 (a.tk x).forr) := hct 4 (by omega)
  have t5 : w.cell? ⟨gt, m * 7 + 5, none⟩ = some (.int .i64 (a.tk x).flags) := hct 5 (by omega)
  have t6 : w.cell? ⟨gt, m * 7 + 6, none⟩ = some (h.qv x) := hct 6 (by omega)
  have tf : ∀ j, w.frozen? ⟨gt, j, none⟩ = false := fun j => free_of htb j
  have tf3 := tf (m * 7 + 3)
  have tf4 := tf (m * 7 + 4)
  have tf5 := tf (m * 7 + 5)
  have hm20 : m ≤ 20 := by omega
  have HTG := Lib.hid (show h.tv.ownBlock = some gt by rw [hv]; rfl)
  have HM2 := Lib.hid hm2
  have t2 : w.cell? ⟨gt, m * 7 + 2, none⟩ = some (.bool (a.tk x).held) := hct 2 (by omega)
  have tf2 := tf (m * 7 + 2)
  have gtl := cell_lt t2
  have xl := cell_lt k0
  have hal := fun o => ((Below.refl w.heap.size w).alloc (Nat.le_refl _) o)
  have R := Lib.hid r
  have GD := Lib.hid gd
  have RB := Lib.hid (r.below ((Below.refl _ _).alloc (Nat.le_refl _) (.cells #[.int .i64 6, .int .i64 x, .int .i64 y, .int .i64 c3, .int .i64 c4] 38)))
  clear r gd g2 hx hm1 hm2 hct hv htb tf hal
  go_enter Try.func61, Try.ntmps61
  go_wp2_with (go_at_call 62; (with_reducible refine (D62.out _ RB.out).mono ?_); rintro e w' ⟨rfl, rfl⟩)
  go_ret
  have LS := R.out.setTk GD.out.tnd HM2.out HTG.out 2 (by omega) (.bool false) { a.tk x with held := false } (by simp [rtc, upd_same])
  have L := LS.trans (Left.refl LS.rep ((Below.refl _ _).alloc (Nat.le_refl _) (.cells #[.int .i64 6, .int .i64 x, .int .i64 y, .int .i64 c3, .int .i64 c4] 38)))
  exact ⟨rfl, _, L⟩
set_option maxHeartbeats 2000000 in
set_option maxRecDepth 100000 in
theorem rmark_range (B xb : Nat) (h : RG) (a : A) (w : World) (r : RRep B xb h a w) (gd : Good a) (g2 : Good2 a) (x y c3 c4 : Int) (hx : x ∈ a.tids) (hy : ¬ (0 ≤ y ∧ y ≤ 65535)) :
    Calls Try.prog 61 #[ptr xb, .agg #[.int .i64 7, .int .i64 x, .int .i64 y, .int .i64 c3, .int .i64 c4]] w (LeftR B xb h a w (.int .i64 1) a) := by
  by_cases h1 : y < 0
  · have d1 : decide (y < 0) = true := by simp; omega
    clear hy h1
    have hlt := nodup_bound 20 a.tids gd.tnd (fun x hx => gd.trng x hx)
    obtain ⟨m, hm1, hm2, hm3⟩ := posF_in hx
    have D62 := Lib.hid (show ∀ w', RRep B xb h a w' → Calls Try.prog 62 #[ptr xb, .int .i64 x] w' fun e w'' => e = .returned (.int .i64 m) ∧ w' = w'' from fun w' hr => by
      have := rfind B xb h a w' hr gd.tnd (by omega) x
      rw [hm1] at this
      exact this)
    obtain ⟨gt, ct, hv, ⟨tcur, htb⟩, hct⟩ := row_cells (f := rtc a h.qv) (sz := 7) (fun _ => rfl) r.trow hm2
    have k0 := r.k0
    rw [hv] at k0
    have t3 : w.cell? ⟨gt, m * 7 + 3, none⟩ = some (.bool (a.tk x).waiting) := hct 3 (by omega)
    have t4 : w.cell? ⟨gt, m * 7 + 4, none⟩ = some (.int .i64 (a.tk x).forr) := hct 4 (by omega)
    have t5 : w.cell? ⟨gt, m * 7 + 5, none⟩ = some (.int .i64 (a.tk x).flags) := hct 5 (by omega)
    have t6 : w.cell? ⟨gt, m * 7 + 6, none⟩ = some (h.qv x) := hct 6 (by omega)
    have tf : ∀ j, w.frozen? ⟨gt, j, none⟩ = false := fun j => free_of htb j
    have tf3 := tf (m * 7 + 3)
    have tf4 := tf (m * 7 + 4)
    have tf5 := tf (m * 7 + 5)
    have hm20 : m ≤ 20 := by omega
    have HTG := Lib.hid (show h.tv.ownBlock = some gt by rw [hv]; rfl)
    have HM2 := Lib.hid hm2
    have t2 : w.cell? ⟨gt, m * 7 + 2, none⟩ = some (.bool (a.tk x).held) := hct 2 (by omega)
    have tf2 := tf (m * 7 + 2)
    have gtl := cell_lt t2
    have xl := cell_lt k0
    have hal := fun o => ((Below.refl w.heap.size w).alloc (Nat.le_refl _) o)
    have R := Lib.hid r
    have GD := Lib.hid gd
    have RB := Lib.hid (r.below ((Below.refl _ _).alloc (Nat.le_refl _) (.cells #[.int .i64 7, .int .i64 x, .int .i64 y, .int .i64 c3, .int .i64 c4] 38)))
    clear r gd g2 hx hm1 hm2 hct hv htb tf hal
    go_enter Try.func61, Try.ntmps61
    go_wp2_with (go_at_call 62; (with_reducible refine (D62.out _ RB.out).mono ?_); rintro e w' ⟨rfl, rfl⟩)
    go_ret
    exact LeftR.still R.out _ ((Below.refl _ _).alloc (Nat.le_refl _) _)
  · have d1 : decide (y < 0) = false := by simp; omega
    have d2 : decide (65535 < y) = true := by simp; omega
    clear hy h1
    have hlt := nodup_bound 20 a.tids gd.tnd (fun x hx => gd.trng x hx)
    obtain ⟨m, hm1, hm2, hm3⟩ := posF_in hx
    have D62 := Lib.hid (show ∀ w', RRep B xb h a w' → Calls Try.prog 62 #[ptr xb, .int .i64 x] w' fun e w'' => e = .returned (.int .i64 m) ∧ w' = w'' from fun w' hr => by
      have := rfind B xb h a w' hr gd.tnd (by omega) x
      rw [hm1] at this
      exact this)
    obtain ⟨gt, ct, hv, ⟨tcur, htb⟩, hct⟩ := row_cells (f := rtc a h.qv) (sz := 7) (fun _ => rfl) r.trow hm2
    have k0 := r.k0
    rw [hv] at k0
    have t3 : w.cell? ⟨gt, m * 7 + 3, none⟩ = some (.bool (a.tk x).waiting) := hct 3 (by omega)
    have t4 : w.cell? ⟨gt, m * 7 + 4, none⟩ = some (.int .i64 (a.tk x).forr) := hct 4 (by omega)
    have t5 : w.cell? ⟨gt, m * 7 + 5, none⟩ = some (.int .i64 (a.tk x).flags) := hct 5 (by omega)
    have t6 : w.cell? ⟨gt, m * 7 + 6, none⟩ = some (h.qv x) := hct 6 (by omega)
    have tf : ∀ j, w.frozen? ⟨gt, j, none⟩ = false := fun j => free_of htb j
    have tf3 := tf (m * 7 + 3)
    have tf4 := tf (m * 7 + 4)
    have tf5 := tf (m * 7 + 5)
    have hm20 : m ≤ 20 := by omega
    have HTG := Lib.hid (show h.tv.ownBlock = some gt by rw [hv]; rfl)
    have HM2 := Lib.hid hm2
    have t2 : w.cell? ⟨gt, m * 7 + 2, none⟩ = some (.bool (a.tk x).held) := hct 2 (by omega)
    have tf2 := tf (m * 7 + 2)
    have gtl := cell_lt t2
    have xl := cell_lt k0
    have hal := fun o => ((Below.refl w.heap.size w).alloc (Nat.le_refl _) o)
    have R := Lib.hid r
    have GD := Lib.hid gd
    have RB := Lib.hid (r.below ((Below.refl _ _).alloc (Nat.le_refl _) (.cells #[.int .i64 7, .int .i64 x, .int .i64 y, .int .i64 c3, .int .i64 c4] 38)))
    clear r gd g2 hx hm1 hm2 hct hv htb tf hal
    go_enter Try.func61, Try.ntmps61
    go_wp2_with (go_at_call 62; (with_reducible refine (D62.out _ RB.out).mono ?_); rintro e w' ⟨rfl, rfl⟩)
    go_ret
    exact LeftR.still R.out _ ((Below.refl _ _).alloc (Nat.le_refl _) _)
set_option maxHeartbeats 2000000 in
set_option maxRecDepth 100000 in
theorem rmark_set (B xb : Nat) (h : RG) (a : A) (w : World) (r : RRep B xb h a w) (gd : Good a) (g2 : Good2 a) (x y c3 c4 : Int) (hx : x ∈ a.tids) (hy : 0 ≤ y ∧ y ≤ 65535) :
    Calls Try.prog 61 #[ptr xb, .agg #[.int .i64 7, .int .i64 x, .int .i64 y, .int .i64 c3, .int .i64 c4]] w (LeftR B xb h a w (.int .i64 0) (setA a x y)) := by
  have d1 : decide (y < 0) = false := by simp; omega
  have d2 : decide (65535 < y) = false := by simp; omega
  clear hy
  have hlt := nodup_bound 20 a.tids gd.tnd (fun x hx => gd.trng x hx)
  obtain ⟨m, hm1, hm2, hm3⟩ := posF_in hx
  have D62 := Lib.hid (show ∀ w', RRep B xb h a w' → Calls Try.prog 62 #[ptr xb, .int .i64 x] w' fun e w'' => e = .returned (.int .i64 m) ∧ w' = w'' from fun w' hr => by
    have := rfind B xb h a w' hr gd.tnd (by omega) x
    rw [hm1] at this
    exact this)
  obtain ⟨gt, ct, hv, ⟨tcur, htb⟩, hct⟩ := row_cells (f := rtc a h.qv) (sz := 7) (fun _ => rfl) r.trow hm2
  have k0 := r.k0
  rw [hv] at k0
  have t3 : w.cell? ⟨gt, m * 7 + 3, none⟩ = some (.bool (a.tk x).waiting) := hct 3 (by omega)
  have t4 : w.cell? ⟨gt, m * 7 + 4, none⟩ = some (.int .i64 (a.tk x).forr) := hct 4 (by omega)
  have t5 : w.cell? ⟨gt, m * 7 + 5, none⟩ = some (.int .i64 (a.tk x).flags) := hct 5 (by omega)
  have t6 : w.cell? ⟨gt, m * 7 + 6, none⟩ = some (h.qv x) := hct 6 (by omega)
  have tf : ∀ j, w.frozen? ⟨gt, j, none⟩ = false := fun j => free_of htb j
  have tf3 := tf (m * 7 + 3)
  have tf4 := tf (m * 7 + 4)
  have tf5 := tf (m * 7 + 5)
  have hm20 : m ≤ 20 := by omega
  have HTG := Lib.hid (show h.tv.ownBlock = some gt by rw [hv]; rfl)
  have HM2 := Lib.hid hm2
  have t2 : w.cell? ⟨gt, m * 7 + 2, none⟩ = some (.bool (a.tk x).held) := hct 2 (by omega)
  have tf2 := tf (m * 7 + 2)
  have gtl := cell_lt t2
  have xl := cell_lt k0
  have hal := fun o => ((Below.refl w.heap.size w).alloc (Nat.le_refl _) o)
  have R := Lib.hid r
  have GD := Lib.hid gd
  have RB := Lib.hid (r.below ((Below.refl _ _).alloc (Nat.le_refl _) (.cells #[.int .i64 7, .int .i64 x, .int .i64 y, .int .i64 c3, .int .i64 c4] 38)))
  clear r gd g2 hx hm1 hm2 hct hv htb tf hal
  go_enter Try.func61, Try.ntmps61
  go_wp2_with (go_at_call 62; (with_reducible refine (D62.out _ RB.out).mono ?_); rintro e w' ⟨rfl, rfl⟩)
  obtain ⟨W, hW⟩ : ∃ W, W = w.alloc (.cells #[.int .i64 7, .int .i64 x, .int .i64 y, .int .i64 c3, .int .i64 c4] 38) := ⟨_, rfl⟩
  have RBW := RB.out
  rw [← hW] at RBW ⊢
  have b2 : W.cell? ⟨w.heap.size, 2, none⟩ = some (.int .i64 y) := by rw [hW]; exact (cell_fr (alloc_new w _) 2).trans rfl
  have s5 : W.cell? ⟨gt, m * 7 + 5, none⟩ = some (.int .i64 (a.tk x).flags) := by rw [hW]; exact (((Below.refl w.heap.size w).alloc (Nat.le_refl _) _).cell (p := ⟨gt, _, none⟩) gtl).trans t5
  have s3 : W.cell? ⟨gt, m * 7 + 3, none⟩ = some (.bool (a.tk x).waiting) := by rw [hW]; exact (((Below.refl w.heap.size w).alloc (Nat.le_refl _) _).cell (p := ⟨gt, _, none⟩) gtl).trans t3
  have s4 : W.cell? ⟨gt, m * 7 + 4, none⟩ = some (.int .i64 (a.tk x).forr) := by rw [hW]; exact (((Below.refl w.heap.size w).alloc (Nat.le_refl _) _).cell (p := ⟨gt, _, none⟩) gtl).trans t4
  have sf5 : W.frozen? ⟨gt, m * 7 + 5, none⟩ = false := by rw [hW]; exact (((Below.refl w.heap.size w).alloc (Nat.le_refl _) _).frozen (p := ⟨gt, _, none⟩) gtl).trans tf5
  have sf3 : W.frozen? ⟨gt, m * 7 + 3, none⟩ = false := by rw [hW]; exact (((Below.refl w.heap.size w).alloc (Nat.le_refl _) _).frozen (p := ⟨gt, _, none⟩) gtl).trans tf3
  have sf4 : W.frozen? ⟨gt, m * 7 + 4, none⟩ = false := by rw [hW]; exact (((Below.refl w.heap.size w).alloc (Nat.le_refl _) _).frozen (p := ⟨gt, _, none⟩) gtl).trans tf4
  have BW := Lib.hid (show Below w.heap.size w W from by rw [hW]; exact (Below.refl _ _).alloc (Nat.le_refl _) _)
  have RW := Lib.hid RBW
  clear hW RBW RB t2 t3 t4 t5 t6 tf2 tf3 tf4 tf5 k0
  obtain ⟨C, hCd⟩ : ∃ C : World → Prop, ∀ x', C x' ↔ (x'.cell? ⟨gt, m * 7 + 5, none⟩ = some (.int .i64 (a.tk x).flags) ∧ x'.cell? ⟨w.heap.size, 2, none⟩ = some (.int .i64 y)) := ⟨_, fun _ => Iff.rfl⟩
  have c5 : ∀ s : {x : World // C x}, s.1.cell? ⟨gt, m * 7 + 5, none⟩ = some (.int .i64 (a.tk x).flags) := fun s => ((hCd s.1).1 s.2).1
  have c2 : ∀ s : {x : World // C x}, s.1.cell? ⟨w.heap.size, 2, none⟩ = some (.int .i64 y) := fun s => ((hCd s.1).1 s.2).2
  have hC0 : C W.drew := (hCd _).2 ⟨s5, b2⟩
  haveI : Nonempty {x : World // C x} := ⟨⟨_, hC0⟩⟩
  refine Mix.wp_region_mix C [10] (by kernel_rfl) (by kernel_rfl) hC0 ?_
  clear hCd
  repeat (refine Mix.mix_still rfl (fun K hK => ?_); go_simp; refine hK _ ?_; clear hK K)
  refine Mix.mix_eff rfl ?_
  go_wp2_with fail
  refine Mix.mix_nil ?_
  go_wp2_with fail
  go_ret
  have r1 := RW.out.keep (w' := W.drew) (fun _ _ => rfl)
  have L5 := r1.setTk GD.out.tnd HM2.out HTG.out 5 (by omega) (.int .i64 (bits .or .i64 (a.tk x).flags y)) { a.tk x with flags := bits .or .i64 (a.tk x).flags y } (by simp [rtc, upd_same])
  have L3 := L5.rep.setTk (i := x) GD.out.tnd HM2.out HTG.out 3 (by omega) (.bool false) { a.tk x with flags := bits .or .i64 (a.tk x).flags y, waiting := false } (by simp [rtc, upd_same])
  have L4 := L3.rep.setTk (i := x) GD.out.tnd HM2.out HTG.out 4 (by omega) (.int .i64 0) { a.tk x with flags := bits .or .i64 (a.tk x).flags y, waiting := false, forr := 0 } (by simp [rtc, upd_same])
  have L0 : Left B xb h a w h a W.drew := Left.refl R.out ⟨BW.out.os, BW.out.tape, BW.out.output, BW.out.size, BW.out.block⟩
  have L := ((L0.trans L5).trans L3).trans L4
  simp only [upd_upd] at L
  exact ⟨rfl, _, L⟩
end Go.Proofs.Ytkmgbnklfnjfjaa.Ker
