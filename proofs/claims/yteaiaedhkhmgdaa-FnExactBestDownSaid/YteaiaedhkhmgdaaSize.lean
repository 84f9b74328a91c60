/- How large a polar is: the laws' count. -/
import Derived.Test.YteaiaedhkhmgdaaCopy
namespace Go.Proofs.Yteaiaedhkhmgdaa.Sz
open Go.RowKit Kit Fl Bd Pf Pw Cp
def Left (n : Int) (len : Nat) (w : World) (e : Ending) (w' : World) : Prop := (∃ r : Int, e = .returned (.int .i64 r) ∧ (r < 0 ∨ (0 ≤ r ∧ r ≤ n ∧ (len : Int) ≤ n))) ∧ w = w'
theorem szFloat32S {A : Option Addr} {len c : Nat} {n : Int} (w : World) (n0 : 0 ≤ n) (n1 : n ≤ 1048576) (hm : len ≤ 9223372036854775807) :
    Calls Try.prog 29 #[.slice A len c, .int .i64 n] w (Left n len w) := by
  by_cases h : n - (len : Int) < 0
  · go_enter Try.func29, Try.ntmps29
    go_wp2_with fail
    go_ret
    exact ⟨⟨_, rfl, Or.inl (by omega)⟩, rfl⟩
  · go_enter Try.func29, Try.ntmps29
    go_wp2_with fail
    go_ret
    exact ⟨⟨n - (len : Int), rfl, Or.inr ⟨by omega, by omega, by omega⟩⟩, rfl⟩
theorem szIntS {A : Option Addr} {len c : Nat} {n : Int} (w : World) (n0 : 0 ≤ n) (n1 : n ≤ 1048576) (hm : len ≤ 9223372036854775807) :
    Calls Try.prog 30 #[.slice A len c, .int .i64 n] w (Left n len w) := by
  by_cases h : n - (len : Int) < 0
  · go_enter Try.func30, Try.ntmps30
    go_wp2_with fail
    go_ret
    exact ⟨⟨_, rfl, Or.inl (by omega)⟩, rfl⟩
  · go_enter Try.func30, Try.ntmps30
    go_wp2_with fail
    go_ret
    exact ⟨⟨n - (len : Int), rfl, Or.inr ⟨by omega, by omega, by omega⟩⟩, rfl⟩
def LeftS (n : Int) (l : List (List Nat)) (w : World) (e : Ending) (w' : World) : Prop := (∃ r : Int, e = .returned (.int .i64 r) ∧ (r < 0 ∨ (0 ≤ r ∧ r ≤ n ∧ (l.length : Int) ≤ n ∧ ∀ j, j < l.length → ((rn l j).length : Int) ≤ n))) ∧ w = w'
set_option maxRecDepth 100000 in
theorem szFloat32SS {w : World} {A : Option Addr} {c : Nat} {l : List (List Nat)} {n : Int} (hR : RRd w A l) (n0 : 0 ≤ n) (n1 : n ≤ 1048576) (hm : l.length ≤ 9223372036854775807) (hr : ∀ j, j < l.length → (rn l j).length ≤ 9223372036854775807) :
    Calls Try.prog 31 #[.slice A l.length c, .int .i64 n] w (LeftS n l w) := by
  have HR := Lib.hid hR
  have HL := Lib.hid hr
  clear hR hr
  by_cases h : n - (l.length : Int) < 0
  · go_enter Try.func31, Try.ntmps31
    go_wp2_with fail
    go_ret
    exact ⟨⟨_, rfl, Or.inl (by omega)⟩, rfl⟩
  · go_enter Try.func31, Try.ntmps31
    go_wp2_with fail
    go_loop [1, 5] (fun m k => ∃ (j : Nat) (r : Int), j ≤ l.length ∧ k = .int .i64 (j : Int) ∧ m = .int .i64 r ∧ 0 ≤ r ∧ r ≤ n ∧ ∀ i, i < j → ((rn l i).length : Int) ≤ n) (fun _ k => l.length - (intOf k).toNat)
    case atStart => exact ⟨0, n - (l.length : Int), by omega, rfl, rfl, by omega, by omega, fun i hi => by omega⟩
    case round =>
      obtain ⟨j, r, hj, rfl, rfl, r0, r1, ha⟩ := hrel
      have HA := Lib.hid ha
      clear ha
      by_cases hl : j < l.length
      · obtain ⟨a, rfl, hL⟩ := HR.out.resolve_left (by omega)
        obtain ⟨B, cc, y1, _⟩ := hL j hl
        clear hL
        go_wp2_with fail
        refine (szFloat32S (len := (rn l j).length) w r0 (by omega) (HL.out j hl)).mono ?_
        rintro e w' ⟨⟨s, rfl, hs⟩, rfl⟩
        rcases hs with hs | ⟨s0, s1, s2⟩
        · go_wp2_with fail
          go_ret
          exact ⟨⟨_, rfl, Or.inl (by omega)⟩, rfl⟩
        · have HS := Lib.hid s2
          clear s2
          go_wp2_with fail
          go_round
          case rel => exact ⟨j + 1, s, by omega, by go_num, rfl, s0, by omega, fun i hi => by
                        by_cases e : i = j
                        · rw [e]; have := HS.out; omega
                        · exact HA.out i (by omega)⟩
          case measure => simp [intOf]; omega
      · obtain rfl : j = l.length := by omega
        go_wp2_with fail
        go_ret
        exact ⟨⟨r, rfl, Or.inr ⟨r0, r1, by omega, HA.out⟩⟩, rfl⟩
structure Small (d : Pol) : Prop where
  f : d.ws.length ≤ 1048576
  i : d.an.length ≤ 1048576
  r : d.rows.length ≤ 1048576
  q : ∀ j, j < d.rows.length → (rn d.rows j).length ≤ 1048576
structure Sane (d : Pol) : Prop where
  f : d.ws.length ≤ 9223372036854775807
  i : d.an.length ≤ 9223372036854775807
  r : d.rows.length ≤ 9223372036854775807
  q : ∀ j, j < d.rows.length → (rn d.rows j).length ≤ 9223372036854775807
set_option maxRecDepth 100000 in
theorem szPolar {w : World} {A0 A1 A2 : Option Addr} {c0 c1 c2 : Nat} {d : Pol} (hP : PRd w A0 A1 A2 d) (hS : Sane d) :
    Calls Try.prog 7 #[.agg #[.slice A0 d.ws.length c0, .slice A1 d.an.length c1, .slice A2 d.rows.length c2], .int .i64 1048576] w fun e w' => (∃ r : Int, e = .returned (.int .i64 r) ∧ (r < 0 ∨ (0 ≤ r ∧ Small d))) ∧ Below w.heap.size w w' := by
  have HB := Lib.hid ((Below.refl w.heap.size w).alloc (Nat.le_refl _) (.cells #[.slice A0 d.ws.length c0, .slice A1 d.an.length c1, .slice A2 d.rows.length c2] 26))
  have HP := Lib.hid (hP.below HB.out)
  have HS := Lib.hid hS
  clear hP hS
  go_enter Try.func7, Try.ntmps7
  go_wp2_with fail
  refine (szFloat32S (len := d.ws.length) _ (by omega) (by omega) HS.out.f).mono ?_
  rintro e w' ⟨⟨r, rfl, hr⟩, rfl⟩
  rcases hr with hr | ⟨r0, r1, r2⟩
  · go_wp2_with fail
    go_ret
    exact ⟨⟨_, rfl, Or.inl (by omega)⟩, HB.out⟩
  have R2 := Lib.hid r2
  clear r2
  go_wp2_with fail
  refine (szIntS (len := d.an.length) _ (by omega) (by omega) HS.out.i).mono ?_
  rintro e w' ⟨⟨s, rfl, hs⟩, rfl⟩
  rcases hs with hs | ⟨s0, s1, s2⟩
  · go_wp2_with fail
    go_ret
    exact ⟨⟨_, rfl, Or.inl (by omega)⟩, HB.out⟩
  have S2 := Lib.hid s2
  clear s2
  go_wp2_with fail
  refine (szFloat32SS HP.out.r (by omega) (by omega) HS.out.r HS.out.q).mono ?_
  rintro e w' ⟨⟨t, rfl, ht⟩, rfl⟩
  rcases ht with ht | ⟨t0, t1, t2, t3⟩
  · go_wp2_with fail
    go_ret
    exact ⟨⟨_, rfl, Or.inl (by omega)⟩, HB.out⟩
  · have T3 := Lib.hid (⟨by have := R2.out; omega, by have := S2.out; omega, by omega, fun j hj => by have := t3 j hj; omega⟩ : Small d)
    clear t2 t3
    go_wp2_with fail
    go_ret
    exact ⟨⟨t, rfl, Or.inr ⟨t0, T3.out⟩⟩, HB.out⟩
end Go.Proofs.Yteaiaedhkhmgdaa.Sz
