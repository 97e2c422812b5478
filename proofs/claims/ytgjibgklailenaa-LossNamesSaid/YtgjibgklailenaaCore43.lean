/- Own library, part 43: loose data in frames that called. -/
import Derived.Test.YtgjibgklailenaaCore42
namespace GL
open Go
theorem Loose.cst {T : List Nat} {v0 : Value} {f : Fact} (h : Loose T f) : Loose T (Fact.cst v0 f) := fun g _ w w' hW hp => h g v0 w w' hW hp
theorem LooseL.loC {G : List It} {T : List Nat} {α : Type} [R : Rp α] [Lo α] {x : α} {s : Nat} {v0 : Value} {L : List It} (h : look G s = some (Fact.cst v0 (Fact.lo T x))) (k : LooseL G T L) : LooseL G T (.fact s (Fact.cst v0 (Fact.lo T x)) :: L) := ⟨h, Loose.cst .lo, k⟩
theorem Ad.cvC {X : Cx} {G : List It} {s : Nat} {v0 : Value} {f f' : Fact} (hs : look G s = some (.cst v0 f)) (hc : Cv G f f') : Ad X G (.fact s (.cst v0 f') :: G) := fun a w env => by
  obtain ⟨g, hg, hf⟩ := env.facts
  refine ⟨env.size, env.defers, env.fr, g, hg, ?_⟩
  exact Facts.ghost hf (fun _ => hc a w g v0 hf (hf s _ hs))
end GL
