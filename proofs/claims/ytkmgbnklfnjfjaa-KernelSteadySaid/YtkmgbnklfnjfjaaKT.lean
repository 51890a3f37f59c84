import Derived.Test.YtkmgbnklfnjfjaaKS
/-! What a call does, as one function; each call by it. -/
namespace Go.Proofs.Ytkmgbnklfnjfjaa.Ker
open Go.RowKit Go.Maps
open Go.ChangeMaps (setBlock)

abbrev S := Int × Int × A
def GivesS (B kb : Nat) (w : World) (s : S) : Ending → World → Prop := Gives B kb w s.1 s.2.1 s.2.2

def createS (a : A) (x y : Int) : S := if 1 ≤ x ∧ x ≤ 20 ∧ 1 ≤ y ∧ y ≤ 1000 then (if x ∈ a.tids then (0, 6, a) else if takenA a y 0 = true then (0, 6, a) else (0, 0, createA a x y)) else (0, 1, a)
def removeS (a : A) (x : Int) : S := if x ∈ a.tids then (if a.q x = [] then (if ∃ p ∈ a.pids, busyP a x p = true then (0, 5, a) else (0, 0, removeA a x)) else (0, 5, a)) else (0, 190, a)
def sendS (a : A) (r x y : Int) : S := if x ∈ a.pids then (if (a.pk x).wth = r then (if y = r then (0, 190, a) else if y ∈ a.tids ∨ y ∈ devs then (0, 0, moveA a x r y) else (0, 190, a)) else (0, 191, a)) else (0, 191, a)
def takeS (a : A) (r : Int) : S := match a.q r with
  | [] => (0, 0, restA a r 0)
  | p :: _ => (p, 0, ownA a p r)
def heldS (a : A) (x : Int) (is : Bool) : S := if x ∈ a.tids then (0, 0, heldA a x is) else (0, 190, a)
def setS (a : A) (x y : Int) : S := if x ∈ a.tids then (if 0 ≤ y ∧ y ≤ 65535 then (0, 0, setA a x y) else (0, 1, a)) else (0, 190, a)
def testS (a : A) (r x : Int) : S := if 0 ≤ x ∧ x ≤ 65535 then (bits .and .i64 (a.tk r).flags x, 0, testA a r x) else (0, 1, a)
def priS (a : A) (x y : Int) : S := if x ∈ a.tids then (if 1 ≤ y ∧ y ≤ 1000 then (if takenA a y x = true then (0, 6, a) else (0, 0, priA a x y)) else (0, 1, a)) else (0, 190, a)
def fetchS (a : A) (r x : Int) : S := if x ∈ a.pids then (if (a.pk x).at_ = 0 then (0, 191, a) else if (a.pk x).frm = r then (0, 0, ownA a x r) else (0, 191, a)) else (0, 191, a)
def packetS (a : A) (r x : Int) : S := if a.made = 200 then (0, 2, a) else (a.made + 1, 0, packA a r x)
def deviceS (a : A) (x y : Int) : S := if x ∈ devs then (match a.q x with
    | [] => (0, 5, a)
    | p :: _ => if (a.pk p).frm ∈ a.tids then (0, 0, moveA (resA (dropA a x p) p y) p x (a.pk p).frm) else (0, 5, dropA a x p)) else (0, 190, a)
def waitS (a : A) (r x : Int) : S := if x ∈ a.pids then (if (a.pk x).wth = r then (0, 191, a) else if (a.pk x).at_ = r then (x, 0, ownA a x r) else (0, 0, restA a r x)) else (0, 191, a)
/-- What call d does, with task r running. -/
def stepA (a : A) (r d x y : Int) : S :=
  if d = 1 then createS a x y else if d = 2 then removeS a x else if d = 3 then sendS a r x y else if d = 4 then takeS a r else if d = 5 then heldS a x true else if d = 6 then heldS a x false
  else if d = 7 then setS a x y else if d = 8 then testS a r x else if d = 9 then priS a x y else if d = 10 then fetchS a r x else if d = 11 then packetS a r x else if d = 12 then deviceS a x y else if d = 13 then waitS a r x else (0, 1, a)
/-- What Do does, with task r running. -/
def doA (a : A) (r d x y : Int) : S :=
  if d < 1 ∨ 13 < d then (0, 1, { a with calls := a.calls + 1 })
  else if r = 0 ∧ d ≠ 12 ∧ (d ≠ 1 ∨ 0 < a.tids.length) then (0, 5, { a with calls := a.calls + 1 }) else stepA { a with calls := a.calls + 1 } r d x y

section
variable (B kb : Nat) (g : G) (a : A) (w : World) (h : KRep B kb g a w) (gd : Good a) (cb : Nat) (x y : Int)
theorem do_create (v : Value) (hc : callAt w cb kb v x y) (h : KRep B kb g a w) (gd : Good a) : Calls Try.prog 40 #[ptr cb] w (GivesS B kb w (createS a x y)) := by
  unfold createS GivesS
  split
  · rename_i hr
    split
    · rename_i hx
      exact create_dup B kb g a w h cb x y v hc hr hx
    · rename_i hx
      split
      · rename_i ht
        exact create_twice B kb g a w h cb x y v hc hr gd.tnd hx ht
      · rename_i ht
        exact create_ok B kb g a w h cb x y v hc hr gd.tnd hx (by simpa using ht)
  · rename_i hr
    by_cases h1 : x < 1
    · exact create_range0 B kb g a w h cb x y v hc h1
    · by_cases h2 : 20 < x
      · exact create_range1 B kb g a w h cb x y v hc ⟨h1, h2⟩
      · by_cases h3 : y < 1
        · exact create_range2 B kb g a w h cb x y v hc ⟨h1, h2, h3⟩
        · exact create_range3 B kb g a w h cb x y v hc ⟨h1, h2, h3, by omega⟩
theorem do_remove (v : Value) (hc : callAt w cb kb v x y) (h : KRep B kb g a w) (gd : Good a) : Calls Try.prog 41 #[ptr cb] w (GivesS B kb w (removeS a x)) := by
  unfold removeS GivesS
  split
  · rename_i hx
    split
    · rename_i hq
      split
      · rename_i hb
        exact remove_queued B kb g a w h cb x y v hc gd.pnd hx hq hb
      · rename_i hb
        exact remove_ok B kb g a w h cb x y v hc gd.pnd gd.tnd hx hq (fun p hp => by
          cases hh : busyP a x p with
          | false => rfl
          | true => exact absurd ⟨p, hp, hh⟩ hb)
    · rename_i hq
      exact remove_busy B kb g a w h cb x y v hc hx hq
  · rename_i hx
    exact remove_none B kb g a w h cb x y v hc hx
theorem do_send (r : Int) (hr : r ∈ a.tids) (hc : callAt w cb kb (ptr (g.tb r)) x y) (h : KRep B kb g a w) (gd : Good a) (hc1 : 1 ≤ a.calls) (hc2 : a.calls ≤ 100000) : Calls Try.prog 42 #[ptr cb] w (GivesS B kb w (sendS a r x y)) := by
  unfold sendS GivesS
  split
  · rename_i hx
    split
    · rename_i hw
      split
      · rename_i hy
        exact send_self B kb g a w h cb r x y hc hr hx hw hy
      · rename_i hy
        split
        · rename_i hn
          exact send_ok B kb g a w h gd cb r x y hc hr hx hw hy hn hc1 hc2
        · rename_i hn
          exact send_nobody B kb g a w h cb r x y hc hr hx hw hy hn
    · rename_i hw
      exact send_other B kb g a w h cb r x y hc hr hx hw
  · rename_i hx
    exact send_none B kb g a w h cb r x y hc hx
theorem do_take (r : Int) (hr : r ∈ a.tids) (hc : callAt w cb kb (ptr (g.tb r)) x y) (h : KRep B kb g a w) (gd : Good a) : Calls Try.prog 43 #[ptr cb] w (GivesS B kb w (takeS a r)) := by
  unfold takeS GivesS
  split
  · rename_i hq
    exact take_none B kb g a w h cb r x y hc hr hq
  · rename_i p l hq
    exact take_some B kb g a w h gd cb r x y hc hr p l hq
theorem do_hold (v : Value) (hc : callAt w cb kb v x y) (h : KRep B kb g a w) : Calls Try.prog 44 #[ptr cb] w (GivesS B kb w (heldS a x true)) := by
  unfold heldS GivesS
  split
  · rename_i hx
    exact hold_ok B kb g a w h cb x y v hc hx
  · rename_i hx
    exact hold_none B kb g a w h cb x y v hc hx
theorem do_release (v : Value) (hc : callAt w cb kb v x y) (h : KRep B kb g a w) : Calls Try.prog 45 #[ptr cb] w (GivesS B kb w (heldS a x false)) := by
  unfold heldS GivesS
  split
  · rename_i hx
    exact release_ok B kb g a w h cb x y v hc hx
  · rename_i hx
    exact release_none B kb g a w h cb x y v hc hx
theorem do_set (v : Value) (hc : callAt w cb kb v x y) (h : KRep B kb g a w) : Calls Try.prog 46 #[ptr cb] w (GivesS B kb w (setS a x y)) := by
  unfold setS GivesS
  split
  · rename_i hx
    split
    · rename_i hy
      exact set_ok B kb g a w h cb x y v hc hx hy
    · rename_i hy
      exact set_range B kb g a w h cb x y v hc hx (by omega)
  · rename_i hx
    exact set_none B kb g a w h cb x y v hc hx
theorem do_test (r : Int) (hr : r ∈ a.tids) (hc : callAt w cb kb (ptr (g.tb r)) x y) (h : KRep B kb g a w) : Calls Try.prog 47 #[ptr cb] w (GivesS B kb w (testS a r x)) := by
  unfold testS GivesS
  split
  · rename_i hx
    exact test_ok B kb g a w h cb r x y hc hr hx
  · rename_i hx
    by_cases h1 : x < 0
    · exact test_lo B kb g a w h cb r x y hc h1
    · exact test_hi B kb g a w h cb r x y hc (by omega)
theorem do_pri (v : Value) (hc : callAt w cb kb v x y) (h : KRep B kb g a w) (gd : Good a) : Calls Try.prog 48 #[ptr cb] w (GivesS B kb w (priS a x y)) := by
  unfold priS GivesS
  split
  · rename_i hx
    split
    · rename_i hy
      split
      · rename_i ht
        exact pri_twice B kb g a w h cb x y v hc gd.tnd hx hy ht
      · rename_i ht
        exact pri_ok B kb g a w h cb x y v hc gd.tnd hx hy (by simpa using ht)
    · rename_i hy
      by_cases h1 : y < 1
      · exact pri_lo B kb g a w h cb x y v hc hx h1
      · exact pri_hi B kb g a w h cb x y v hc hx (by omega)
  · rename_i hx
    exact pri_none B kb g a w h cb x y v hc hx
theorem do_fetch (r : Int) (hr : r ∈ a.tids) (hc : callAt w cb kb (ptr (g.tb r)) x y) (h : KRep B kb g a w) (gd : Good a) : Calls Try.prog 49 #[ptr cb] w (GivesS B kb w (fetchS a r x)) := by
  unfold fetchS GivesS
  split
  · rename_i hx
    split
    · rename_i ha
      exact fetch_out B kb g a w h cb r x y hc hr hx ha
    · rename_i ha
      split
      · rename_i hf
        exact fetch_ok B kb g a w h cb r x y hc gd hr hx ha hf
      · rename_i hf
        exact fetch_other B kb g a w h cb r x y hc hr hx ha hf
  · rename_i hx
    exact fetch_none B kb g a w h cb r x y hc hx
theorem do_packet (r : Int) (hr : r ∈ a.tids) (hc : callAt w cb kb (ptr (g.tb r)) x y) (h : KRep B kb g a w) (gd : Good a) : Calls Try.prog 50 #[ptr cb] w (GivesS B kb w (packetS a r x)) := by
  unfold packetS GivesS
  split
  · rename_i hm
    exact packet_limit B kb g a w h cb r x y hc hm
  · rename_i hm
    have := gd.made
    exact packet_ok B kb g a w h cb r x y hc hr (by omega) (fun p hp => (gd.pkr p hp).2) (fun j hj p hp => (gd.pkr p (gd.qin j hj p hp).1).2)
theorem do_device (v : Value) (hc : callAt w cb kb v x y) (h : KRep B kb g a w) (gd : Good a) (hc1 : 1 ≤ a.calls) (hc2 : a.calls ≤ 100000) : Calls Try.prog 51 #[ptr cb] w (GivesS B kb w (deviceS a x y)) := by
  unfold deviceS GivesS
  split
  · rename_i hx
    split
    · rename_i hq
      exact device_empty B kb g a w h cb x y v hc hx hq
    · rename_i p l hq
      split
      · rename_i hf
        exact device_ok B kb g a w h cb x y v hc gd hx p l hq hf hc1 hc2
      · rename_i hf
        exact device_gone B kb g a w h cb x y v hc gd hx p l hq hf
  · rename_i hx
    exact device_none B kb g a w h cb x y v hc hx
theorem do_wait (r : Int) (hr : r ∈ a.tids) (hc : callAt w cb kb (ptr (g.tb r)) x y) (h : KRep B kb g a w) (gd : Good a) : Calls Try.prog 52 #[ptr cb] w (GivesS B kb w (waitS a r x)) := by
  unfold waitS GivesS
  split
  · rename_i hx
    split
    · rename_i hw
      exact wait_mine B kb g a w h cb r x y hc hr hx hw
    · rename_i hw
      split
      · rename_i ha
        exact wait_here B kb g a w h cb r x y hc gd hr hx hw ha
      · rename_i ha
        exact wait_rest B kb g a w h cb r x y hc hr hx hw ha
  · rename_i hx
    exact wait_none B kb g a w h cb r x y hc hx

/-- The function that call d names answers as said. -/
theorem do_step (r d : Int) (v : Value) (hv : (r ∈ a.tids ∧ v = ptr (g.tb r)) ∨ (d = 1 ∨ d = 12)) (hd : 1 ≤ d ∧ d ≤ 13) (hc : callAt w cb kb v x y) (h : KRep B kb g a w) (gd : Good a) (hc1 : 1 ≤ a.calls) (hc2 : a.calls ≤ 100000) :
    ∃ n, lookF (doing cb) d = some (.func (.func n) #[ptr cb] #[]) ∧ Calls Try.prog n #[ptr cb] w (GivesS B kb w (stepA a r d x y)) := by
  have hcase : d = 1 ∨ d = 2 ∨ d = 3 ∨ d = 4 ∨ d = 5 ∨ d = 6 ∨ d = 7 ∨ d = 8 ∨ d = 9 ∨ d = 10 ∨ d = 11 ∨ d = 12 ∨ d = 13 := by omega
  rcases hcase with rfl | rfl | rfl | rfl | rfl | rfl | rfl | rfl | rfl | rfl | rfl | rfl | rfl
  · exact ⟨40, rfl, do_create B kb g a w cb x y v hc h gd⟩
  · exact ⟨41, rfl, do_remove B kb g a w cb x y v hc h gd⟩
  · obtain ⟨hr, rfl⟩ := hv.resolve_right (by omega)
    exact ⟨42, rfl, do_send B kb g a w cb x y r hr hc h gd hc1 hc2⟩
  · obtain ⟨hr, rfl⟩ := hv.resolve_right (by omega)
    exact ⟨43, rfl, do_take B kb g a w cb x y r hr hc h gd⟩
  · exact ⟨44, rfl, do_hold B kb g a w cb x y v hc h⟩
  · exact ⟨45, rfl, do_release B kb g a w cb x y v hc h⟩
  · exact ⟨46, rfl, do_set B kb g a w cb x y v hc h⟩
  · obtain ⟨hr, rfl⟩ := hv.resolve_right (by omega)
    exact ⟨47, rfl, do_test B kb g a w cb x y r hr hc h⟩
  · exact ⟨48, rfl, do_pri B kb g a w cb x y v hc h gd⟩
  · obtain ⟨hr, rfl⟩ := hv.resolve_right (by omega)
    exact ⟨49, rfl, do_fetch B kb g a w cb x y r hr hc h gd⟩
  · obtain ⟨hr, rfl⟩ := hv.resolve_right (by omega)
    exact ⟨50, rfl, do_packet B kb g a w cb x y r hr hc h gd⟩
  · exact ⟨51, rfl, do_device B kb g a w cb x y v hc h gd hc1 hc2⟩
  · obtain ⟨hr, rfl⟩ := hv.resolve_right (by omega)
    exact ⟨52, rfl, do_wait B kb g a w cb x y r hr hc h gd⟩
end
end Go.Proofs.Ytkmgbnklfnjfjaa.Ker
