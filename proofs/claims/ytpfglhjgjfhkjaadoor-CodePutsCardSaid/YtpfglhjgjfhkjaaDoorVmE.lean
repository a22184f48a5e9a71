/- An abstract machine for Go's code, proved right: part 5 of 7. -/
import Derived.Test.YtpfglhjgjfhkjaaDoorVmD
/- Two functions that are told by hand: strings.Compare, and which texts are names. What they answer. -/
namespace Go.Proofs.YtpfglhjgjfhkjaaDoorVM
open Go
def cmpB (a b : ByteArray) : Int := bif sltB a b then -1 else bif sltB b a then 1 else 0
def cmpF (zs : List A) : Option (List A) := some [.t (.int (cmpB (aAt zs 0).tree.txt (aAt zs 1).tree.txt))]
def cmpE (f ts ti : Nat) : Entry := { fid := f, ins := ⟨[(0, .v ts), (1, .v ts)], []⟩, outs := ⟨[(0, .v ti)], []⟩, cuts := [], prim := some cmpF }
/-- The words of the language. -/
def wordsL : List ByteArray := [⟨#[97, 110, 121]⟩, ⟨#[98, 111, 111, 108]⟩, ⟨#[99, 111, 109, 112, 117, 116, 101, 100]⟩, ⟨#[102, 97, 108, 115, 101]⟩, ⟨#[105, 110, 116]⟩, ⟨#[110, 111, 110, 101]⟩, ⟨#[114, 101, 115, 111, 117, 114, 99, 101]⟩, ⟨#[115, 116, 114, 105, 110, 103]⟩, ⟨#[116, 114, 117, 101]⟩]
def small (c : UInt8) : Bool := decide (97 ≤ c.toNat) && decide (c.toNat ≤ 122)
def inner (c : UInt8) : Bool := small c || c.toNat == 95 || (decide (48 ≤ c.toNat) && decide (c.toNat ≤ 57))
def nameL : List UInt8 → Bool
  | [] => false
  | c :: l => small c && l.all inner
def nameB (s : ByteArray) : Bool := decide (s.size ≤ 16) && !(wordsL.any fun w => seqB w s) && nameL s.data.toList
def nameF (zs : List A) : Option (List A) := some [.t (.bool (nameB (aAt zs 0).tree.txt))]
def nameE (f ts tb : Nat) : Entry := { fid := f, ins := ⟨[(0, .v ts)], []⟩, outs := ⟨[(0, .v tb)], []⟩, cuts := [], prim := some nameF }
end Go.Proofs.YtpfglhjgjfhkjaaDoorVM
