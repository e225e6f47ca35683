/- What the rows ask of the program's head, in small steps: the kernel cannot hold the head's letters at once. -/
import Derived.Test.YtmmepogjocfefaaGreatOpen
namespace Go.Proofs.YtmmepogjocfefaaGreat
set_option linter.unusedVariables false
set_option linter.unusedSimpArgs false
open Go.RowKit

theorem wordsSigns_word : ∀ (p r : List Char), (∀ c ∈ p, c ≠ Char.ofNat 32) → wordsSigns (p ++ Char.ofNat 32 :: r) = p :: wordsSigns r
 | [], r, _ => rfl
 | c :: p, r, h => by
   have ih := wordsSigns_word p r (fun x hx => h x (List.mem_cons_of_mem _ hx))
   have hc : c ≠ Char.ofNat 32 := h c List.mem_cons_self
   rw [List.cons_append, wordsSigns.eq_3 _ _ (fun e => hc e), ih]
def initA : List Nat := [104, 97, 114, 110, 101, 115, 115]
def initB : List Nat := [55, 102, 53, 50, 53, 97, 48, 99, 49, 98, 52, 102, 51, 101, 52, 52, 99, 99, 53, 51, 98, 102, 55, 98, 100, 57, 102, 49, 101, 99, 101, 56, 49, 54, 53, 57, 55, 52, 100, 101, 48, 50, 55, 100, 55, 98, 54, 48, 53, 51, 57, 98, 98, 102, 102, 99, 52, 55, 100, 49, 53, 52, 52, 102]
def initC : List Nat := [99, 117, 116]
def initR : List Nat := [97, 116, 32, 108, 111, 111, 112, 46, 101, 120, 97, 109, 112, 108, 101, 47, 103, 48, 48, 48, 55, 52, 47, 108, 97, 119, 115, 46, 70, 110, 69, 120, 97, 99, 116, 65, 117, 100, 105, 116, 79, 102, 32, 108, 111, 111, 112, 46, 101, 120, 97, 109, 112, 108, 101, 47, 103, 48, 48, 48, 55, 52, 47, 108, 97, 119, 115, 46, 70, 110, 69, 120, 97, 99, 116, 68, 105, 115, 107, 79, 102, 32, 108, 111, 111, 112, 46, 101, 120, 97, 109, 112, 108, 101, 47, 103, 48, 48, 48, 55, 52, 47, 108, 97, 119, 115, 46, 70, 110, 69, 120, 97, 99, 116, 72, 101, 97, 100, 70, 114, 111, 109, 32, 108, 111, 111, 112, 46, 101, 120, 97, 109, 112, 108, 101, 47, 103, 48, 48, 48, 55, 52, 47, 108, 97, 119, 115, 46, 70, 110, 69, 120, 97, 99, 116, 66, 114, 111, 107, 101, 114, 79, 107, 32, 108, 111, 111, 112, 46, 101, 120, 97, 109, 112, 108, 101, 47, 103, 48, 48, 48, 55, 52, 47, 108, 97, 119, 115, 46, 70, 110, 69, 120, 97, 99, 116, 87, 97, 105, 116, 105, 110, 103, 32, 108, 111, 111, 112, 46, 101, 120, 97, 109, 112, 108, 101, 47, 103, 48, 48, 48, 55, 52, 47, 108, 97, 119, 115, 46, 70, 110, 69, 120, 97, 99, 116, 66, 101, 116, 119, 101, 101, 110, 32, 108, 111, 111, 112, 46, 101, 120, 97, 109, 112, 108, 101, 47, 103, 48, 48, 48, 55, 52, 47, 108, 97, 119, 115, 46, 70, 110, 69, 120, 97, 99, 116, 76, 101, 97, 102, 80, 114, 111, 111, 102]
theorem init_eq : Tryz.prog.initOrder = String.ofList (List.map Char.ofNat initA ++ Char.ofNat 32 :: (List.map Char.ofNat initB ++ Char.ofNat 32 :: (List.map Char.ofNat initC ++ Char.ofNat 32 :: List.map Char.ofNat initR))) := by kernel_rfl
theorem init_words : ∃ rest, behindMainWord (wordsSigns Tryz.prog.initOrder.toList) = "cut".toList :: rest := by
 rw [init_eq, String.toList_ofList, wordsSigns_word _ _ (by decide), wordsSigns_word _ _ (by decide), wordsSigns_word _ _ (by decide)]
 generalize wordsSigns (List.map Char.ofNat initR) = rest
 exact ⟨rest, by
  have h1 : ("harness".toList : List Char) = List.map Char.ofNat initA := by decide
  have h2 : isSumSigns (List.map Char.ofNat initB) = true := by decide
  have h3 : ("cut".toList : List Char) = List.map Char.ofNat initC := by decide
  rw [behindMainWord, h2, ← h1, ← h3]
  simp⟩
theorem strip_cut (rest : List (List Char)) : stripLifts liftWords ("cut".toList :: rest) = ([], "cut".toList :: rest) := by
 simp [stripLifts, liftWords]
theorem mayEnter_cut {P : Program} {rest : List (List Char)} (h : behindMainWord (wordsSigns P.initOrder.toList) = "cut".toList :: rest) (h1 : P.laysLater = false) (h2 : P.bearsReflect = false) (h3 : P.doorFits [] = true) : P.mayEnter = true := by
 rw [Program.mayEnter, h]
 simp only [strip_cut, h1, h2, h3]
 simp
theorem headLifts_cut {P : Program} {rest : List (List Char)} (h : behindMainWord (wordsSigns P.initOrder.toList) = "cut".toList :: rest) : P.headLifts = [] := by
 rw [Program.headLifts, h]
 simp only [strip_cut]
 simp
theorem liftsFinal_cut {P : Program} {rest : List (List Char)} (h : behindMainWord (wordsSigns P.initOrder.toList) = "cut".toList :: rest) : P.liftsFinal = false := by
 rw [Program.liftsFinal, h, headLifts_cut h]
 simp
theorem make_cut {P : Program} {rest : List (List Char)} (h : behindMainWord (wordsSigns P.initOrder.toList) = "cut".toList :: rest) : P.make = some .cut := by
 rw [Program.make, h]
 simp
theorem seat_lays : Tryz.prog.laysLater = false := by kernel_rfl
theorem seat_reflect : Tryz.prog.bearsReflect = false := by kernel_rfl
theorem seat_door : Tryz.prog.doorFits [] = true := by kernel_rfl
theorem seat_enter : Tryz.prog.mayEnter = true := let ⟨_, h⟩ := init_words; mayEnter_cut h seat_lays seat_reflect seat_door
theorem seat_final : Tryz.prog.liftsFinal = false := let ⟨_, h⟩ := init_words; liftsFinal_cut h
theorem seat_make : Tryz.prog.make = some .cut := let ⟨_, h⟩ := init_words; make_cut h
end Go.Proofs.YtmmepogjocfefaaGreat
