/-
  What the frames of the laws over listed package variables share.
-/
import Derived.Test.YtcehbmlibfalaaaDoorCards
import Derived.Test.YtcehbmlibfalaaaDoorTie
import Derived.Test.YtcehbmlibfalaaaDoorJFrame
import Derived.Test.YtcehbmlibfalaaaDoorBase4
import Derived.Deep.DeepHandedRow
import Derived.Lib.LaidTab
import Derived.WalkSmall
namespace Go.Proofs.YtcehbmlibfalaaaDoor
open Go.ChangeShapes Go.WideShapes Go.ChangeAt Go.RowKit

/-- The listed variables' types can be read. -/
def fineVars (P : Program) (ns : List String) : Bool := ns.all fun n => match P.globalNamed n with
  | some g => match (P.globals[g]?).map (·.type) with
    | some t => P.readableRec t && decide (t < P.types.size)
    | none => true
  | none => true

theorem trodVars_stays {H : Type} {enc : TypeId × Value → H} {P : Program} (hl : laidOutB P = true) {W W' : World} (hb : Below W.heap.size W W') :
    ∀ {ns : List String} {gs : List (DataW H)} {ps : List MemPlace}, fineVars P ns = true → DataW.TrodVars enc P W (fun _ => true) ns gs ps → (∀ x ∈ ps, x.block < W.heap.size) →
      DataW.TrodVars enc P W' (fun b => decide (b < W.heap.size)) ns gs ps
  | [], gs, ps, _, h, _ => by
    obtain ⟨rfl, rfl⟩ := trodVars_none h
    exact rfl
  | n :: ns, [], ps, _, h, _ => by simp [DataW.TrodVars] at h
  | n :: ns, d :: ds, ps, hf, h, hlt => by
    obtain ⟨g, t, cs, fuel, p, q, h1, h2, h3, h4, hs, rfl⟩ := h
    unfold fineVars at hf
    rw [List.all_cons, Bool.and_eq_true, h1] at hf
    simp only [h2] at hf
    obtain ⟨hf1, hf2⟩ := hf
    rw [Bool.and_eq_true, decide_eq_true_eq] at hf1
    have hg : g < W.heap.size := by
      simp only [World.var?, h1, Option.bind_some] at h3
      split at h3
      · rename_i hh; exact (Array.getElem?_eq_some_iff.1 hh).1
      · cases h3
    refine ⟨g, t, cs, fuel, p, q, h1, h2, var?_below hb h1 hg h3, ?_, trodVars_stays hl hb hf2 hs (fun x hx => hlt x (by simp [hx])), rfl⟩
    exact DataW.trod_stays (kids_book hl hf1.1) (book_sized hf1.1) (fun h => by cases h) ⟨hf1.2, book_self t⟩ h4 (fun x hx => hb.same (hlt x (by simp [hx]))) (fun x hx => by simpa using hlt x (by simp [hx]))

theorem trodVars_cons {H : Type} {enc : TypeId × Value → H} {P : Program} {W : World} {sp : Nat → Bool} {n : String} {ns : List String} {gs : List (DataW H)} {ps : List MemPlace} (h : DataW.TrodVars enc P W sp (n :: ns) gs ps) :
    ∃ d ds q, gs = d :: ds ∧ DataW.TrodVars enc P W sp ns ds q := by
  cases gs with
  | nil => simp [DataW.TrodVars] at h
  | cons d ds =>
    obtain ⟨g, t, cs, fuel, p, q, h1, h2, h3, h4, hs, e⟩ := h
    exact ⟨d, ds, q, rfl, hs⟩

/-- What a table's reading gives. -/
theorem tabAt_of {P : Program} {W : World} {name : String} {k : IntKind} {zs : List Int} {g : Nat} (h : Lib.TabIs P W name k zs) (hg : P.globalNamed name = some g) : TabAt W g k zs := by
  intro i x hx
  have hi := (List.getElem?_eq_some_iff.1 hx).1
  rw [h.cell hg i hi, List.getD_eq_getElem?_getD, hx]
  rfl

end Go.Proofs.YtcehbmlibfalaaaDoor
