/- Plain laws of feeds. -/
import Derived.Test.YtfnmlffpnmmcdaaKeyed
import Derived.Test.YtfnmlffpnmmcdaaItem
import Derived.Test.YtfnmlffpnmmcdaaItemV
namespace Go.Proofs.Ytfnmlffpnmmcdaa
/-- Is the place in order? -/
def OkI (xs : List ElItem) (k : Nat) : Prop := ivB (gt xs k) = true ∧ ∀ j, j < k → (gt xs j).1 ≠ (gt xs k).1
instance (xs : List ElItem) (k : Nat) : Decidable (OkI xs k) := inferInstanceAs (Decidable (_ ∧ ∀ j, j < k → (gt xs j).1 ≠ (gt xs k).1))
/-- FeedValid's answer. -/
def fdB (xs : List ElItem) : Bool := vdB OkI 8 xs
theorem fd_len {xs : List ElItem} (h : fdB xs = true) : xs.length ≤ 8 := (Vd.of h).1
theorem fd_iv {xs : List ElItem} (h : fdB xs = true) {k : Nat} (hk : k < xs.length) : ivB (gt xs k) = true := ((Vd.of h).2 k hk).1
def isI (key : ByteArray) (x : ElItem) : Bool := seq x.1 key
def itemIx (xs : List ElItem) (key : ByteArray) : Int := ix (isI key) xs
end Go.Proofs.Ytfnmlffpnmmcdaa
