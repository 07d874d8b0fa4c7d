/- A region that draws its order, walked once in the order of the text, over the class of the worlds that keep what lay there: callees may make memory of their own. -/
import Derived.Test.YtkimbgehnhcmaaaGreatDoorBase
import Derived.Deep.QuietTactic
namespace Go.Proofs.YtkimbgehnhcmaaaGreatDoor
open Go.RowKit

/-- A world that keeps what lay in W0. -/
structure KeptBy (W0 : World) where
  w : World
  h : Below W0.heap.size W0 w
instance {W0 : World} : Inhabited (KeptBy W0) := ⟨⟨W0, Below.refl _ _⟩⟩
theorem KeptBy.kept {W0 : World} (p : KeptBy W0) : Kept W0.heap.size W0 p.w := ⟨p.h, Nat.le_refl _⟩
theorem KeptBy.cell {W0 : World} {b o : Nat} {v : Value} (hb : b < W0.heap.size) (h : W0.cell? ⟨b, o, none⟩ = some v) (p : KeptBy W0) : p.w.cell? ⟨b, o, none⟩ = some v := (p.h.cell (p := ⟨b, o, none⟩) hb).trans h
theorem wp_region_kept {P : Program} {id : Nat} {Q : Exit → Act → World → Prop} {a : Act} {W0 : World} {l : List Oper} (hm : P.follows .mixedOrders = true) (hB : Region.lexB .any l.toArray = true)
    (h : wpQuiet P l.toArray (fun w' => ∃ p : KeptBy W0, w' = p.w) (fun a' => ∀ w', (∃ p : KeptBy W0, w' = p.w) → Q .normal a' w') l a) : (Code.region id l.toArray true).wp P Q a W0 :=
  wp_region_quiet (C := fun w' => ∃ p : KeptBy W0, w' = p.w) hm hB ⟨⟨W0.drew, (Below.refl W0.heap.size W0).drew⟩, rfl⟩ (by simpa using h)
theorem Calls.kept_of {P : Program} {f : FuncId} {args : Array Value} {W0 : World} {p : KeptBy W0} {v : Value}
    (h : Calls P f args p.w fun e w' => e = .returned v ∧ Below p.w.heap.size p.w w') : Calls P f args p.w fun e w'' => e = .returned v ∧ ∃ q : KeptBy W0, w'' = q.w :=
  h.mono fun _ w' ⟨he, hb⟩ => ⟨he, ⟨w', p.h.trans (hb.mono p.h.size)⟩, rfl⟩
theorem Calls.kept_same {P : Program} {f : FuncId} {args : Array Value} {W0 : World} {p : KeptBy W0} {v : Value}
    (h : Calls P f args p.w fun e w' => e = .returned v ∧ p.w = w') : Calls P f args p.w fun e w'' => e = .returned v ∧ ∃ q : KeptBy W0, w'' = q.w :=
  h.mono fun _ _ ⟨he, hm⟩ => ⟨he, p, hm.symm⟩
theorem Calls.kept_drew {P : Program} {f : FuncId} {args : Array Value} {W0 : World} {p : KeptBy W0} {v : Value}
    (h : Calls P f args p.w fun e w' => e = .returned v ∧ ∃ m, w' = p.w.drewN m) : Calls P f args p.w fun e w'' => e = .returned v ∧ ∃ q : KeptBy W0, w'' = q.w :=
  h.mono fun _ w' ⟨he, m, hm⟩ => ⟨he, ⟨w', hm ▸ below_drewN p.h m⟩, rfl⟩
end Go.Proofs.YtkimbgehnhcmaaaGreatDoor
