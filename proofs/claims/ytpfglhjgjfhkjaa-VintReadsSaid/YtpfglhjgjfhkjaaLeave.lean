/- A call that ends alone ends with nobody but leaving ones: the 'leaving' row from the plain one. No condition. -/
import Derived.Conc.LeavingOf
import Derived.Handed
import Derived.Leaving
namespace Go.Proofs.Ytpfglhjgjfhkjaa.Leave
open Go
theorem of_alone {P : Program} {last : Machine} {w : World} {t : Trace} (h : aloneAtReturn P last w t) : leavingAtReturn P last w t :=
  ⟨h.2.1, onlyLeaving_of_quiet h.1, h.2.2⟩
theorem of_handed {a : Assume} {C : Checked} {os : Os} {f : FuncId} {r : Reach} {Pre : World → Array Value → Prop} {Post : World → Array Value → Value → World → Prop}
    (h : ReturnsInHanded a C os f r Pre Post) : ReturnsInLeavingWide a C os f r Pre Post := fun enter => by
  obtain ⟨e, own, started, wit, runs⟩ := h enter
  refine ⟨e, own, started, wit, fun w tape i hh => ?_⟩
  obtain ⟨n, v, w', hend, hclean, hroom, hp, ⟨n', last, h1, h2, h3⟩, hal⟩ := runs w tape i hh
  exact ⟨n, v, w', hend, hclean, hroom, hp, ⟨n', last, h1, h2, of_alone h3⟩, hal⟩
end Go.Proofs.Ytpfglhjgjfhkjaa.Leave
