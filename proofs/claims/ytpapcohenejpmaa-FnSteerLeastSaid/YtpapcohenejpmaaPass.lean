/- A passage: the steered heading, the pace along the track, the seconds: what the program comes to. -/
import Derived.Test.YtpapcohenejpmaaSteer
namespace Go.Proofs.Ytpapcohenejpmaa.Ps
open Go.RowKit Kit Fl Bd Tn Vl Sc Al Ss
/-- the pace along the track of a heading -/
def paceF (t h : Int) (s c d : Nat) : Nat := if okR s c d = true then dotP (tb (deg t)) (wk (tb (deg h)) s c d) else 0
theorem impl_Along (t h : Int) (s c d : Nat) (w : World) : Calls Try.prog 19 #[.int .i64 t, .int .i64 h, .float .f32 s, .complex .f32 c d] w fun e w' => e = .returned (.tuple #[.float .f64 (paceF t h s c d), .bool (okR s c d)]) ∧ w = w' := by
  refine (impl_AlongTrack t h s c d w).mono fun e w' ⟨he, hw⟩ => ⟨?_, hw⟩
  rw [he]
  unfold paceF
  cases h' : okR s c d
  · unfold okR at h'; rw [h']; rfl
  · unfold okR at h'; rw [h']; rfl
def pasN (t : Int) (m s c d : Nat) : Int := if headB t s c d = true then secN m (paceF t (headN t s c d) s c d) else 0
def pasB (t : Int) (m s c d : Nat) : Bool := headB t s c d && secB m (paceF t (headN t s c d) s c d)
theorem impl_Passage (t : Int) (m s c d : Nat) (w : World) : Calls Try.prog 27 #[.int .i64 t, .float .f64 m, .float .f32 s, .complex .f32 c d] w fun e w' => e = .returned (.tuple #[.int .i64 (pasN t m s c d), .bool (pasB t m s c d)]) ∧ Below w.heap.size w w' := by
  unfold pasN pasB
  cases hh : headB t s c d
  · have HH := Lib.hid hh
    clear hh
    go_enter Try.func27, Try.ntmps27
    go_wp2_with fail
    refine (impl_Steer _ _ _ _ _).mono ?_
    rintro e w1 ⟨rfl, hb⟩
    have HB := Lib.hid hb
    clear hb
    rw [HH.out]
    go_wp2_with fail
    go_ret2
    exact ⟨rfl, HB.out⟩
  · have HH := Lib.hid hh
    clear hh
    go_enter Try.func27, Try.ntmps27
    go_wp2_with fail
    refine (impl_Steer _ _ _ _ _).mono ?_
    rintro e w1 ⟨rfl, hb⟩
    have HB := Lib.hid hb
    clear hb
    rw [HH.out]
    go_wp2_with fail
    refine (impl_Along _ _ _ _ _ _).mono ?_
    rintro e w' ⟨rfl, rfl⟩
    go_wp2_with fail
    refine (impl_SecondsFor _ _ _).mono ?_
    rintro e w' ⟨rfl, rfl⟩
    go_wp2_with fail
    go_ret2
    exact ⟨rfl, HB.out⟩
end Go.Proofs.Ytpapcohenejpmaa.Ps
