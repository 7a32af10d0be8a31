/- WireSays: the walk, joined. -/
import Derived.Test.YtoccidpocagkjaaSwr
import Derived.Test.YtoccidpocagkjaaSws
import Derived.Test.YtoccidpocagkjaaSwt
import Derived.Test.YtoccidpocagkjaaSwu
import Derived.Test.YtoccidpocagkjaaSwv
namespace Go.Proofs.Ytoccidpocagkjaa
open Go.RowKit Go.Proofs.YtoccidpocagkjaaW.PrintWords Cf
theorem wireSays_law (m m' : Wm) (E : Option Addr) (e : Nat) (A : Option Addr) (a : Nat) (B : Option Addr) (b : Nat) (E' : Option Addr) (e' : Nat) (A' : Option Addr) (a' : Nat) (B' : Option Addr) (b' : Nat) (w : World) (h : MR w m E e A a B b) (h' : MR w m' E' e' A' a' B' b') (ho : msgOk m) (ho' : msgOk m') :
    Calls Try.prog 3 #[msgV m E e A a B b, msgV m' E' e' A' a' B' b'] w fun e w' => e = .returned (.bool true) ∧ Below w.heap.size w w' := by
  cases hl : lightW m with
  | false => exact says_1 m m' E e A a B b E' e' A' a' B' b' w h h' ho ho' hl
  | true =>
    cases hl' : lightW m' with
    | false => exact says_2 m m' E e A a B b E' e' A' a' B' b' w h h' ho ho' hl hl'
    | true =>
      cases vs : soundW m with
      | true =>
        cases vm : decide (m = m') with
        | true => exact says_3tt m m' E e A a B b E' e' A' a' B' b' w h h' ho ho' hl hl' vs vm
        | false => exact says_3tf m m' E e A a B b E' e' A' a' B' b' w h h' ho ho' hl hl' vs vm
      | false =>
        cases vm : decide (m = m') with
        | true => exact says_3ft m m' E e A a B b E' e' A' a' B' b' w h h' ho ho' hl hl' vs vm
        | false => exact says_3ff m m' E e A a B b E' e' A' a' B' b' w h h' ho ho' hl hl' vs vm
end Go.Proofs.Ytoccidpocagkjaa
