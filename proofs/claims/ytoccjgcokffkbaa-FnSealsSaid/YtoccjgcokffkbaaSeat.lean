/- What the rows ask of the program's head, in small steps: the kernel cannot hold the head's letters at once. -/
import Derived.Test.YtoccjgcokffkbaaOpen
namespace Go.Proofs.Ytoccjgcokffkbaa
set_option linter.unusedVariables false
set_option linter.unusedSimpArgs false
open Go.RowKit

theorem wordsSigns_word : ∀ (p r : List Char), (∀ c ∈ p, c ≠ Char.ofNat 32) → wordsSigns (p ++ Char.ofNat 32 :: r) = p :: wordsSigns r
 | [], r, _ => rfl
 | c :: p, r, h => by
   have ih := wordsSigns_word p r (fun x hx => h x (List.mem_cons_of_mem _ hx))
   have hc : c ≠ Char.ofNat 32 := h c List.mem_cons_self
   rw [List.cons_append, wordsSigns.eq_3 _ _ (fun e => hc e), ih]
def initA : List Nat := [104, 97, 114, 110, 101, 115, 115]
def initB : List Nat := [54, 56, 52, 48, 99, 52, 98, 49, 101, 102, 50, 99, 55, 55, 50, 57, 57, 54, 56, 52, 102, 99, 52, 100, 100, 50, 53, 51, 97, 54, 98, 98, 51, 52, 51, 57, 50, 55, 52, 97, 49, 97, 52, 101, 52, 54, 53, 99, 54, 100, 57, 98, 97, 51, 99, 52, 98, 99, 48, 101, 97, 56, 52, 48]
def initC : List Nat := [99, 117, 116]
def initR : List Nat := [97, 116, 32, 108, 111, 111, 112, 46, 101, 120, 97, 109, 112, 108, 101, 47, 103, 48, 48, 48, 55, 52, 47, 108, 97, 119, 115, 46, 70, 110, 67, 117, 116, 66, 121, 116, 101, 115, 32, 108, 111, 111, 112, 46, 101, 120, 97, 109, 112, 108, 101, 47, 103, 48, 48, 48, 55, 52, 47, 108, 97, 119, 115, 46, 70, 110, 65, 100, 100, 115, 32, 108, 111, 111, 112, 46, 101, 120, 97, 109, 112, 108, 101, 47, 103, 48, 48, 48, 55, 52, 47, 108, 97, 119, 115, 46, 70, 110, 83, 101, 97, 108, 115, 32, 108, 111, 111, 112, 46, 101, 120, 97, 109, 112, 108, 101, 47, 103, 48, 48, 48, 55, 52, 47, 108, 97, 119, 115, 46, 70, 110, 84, 111, 112, 105, 99, 115]
theorem init_eq : Try.prog.initOrder = String.ofList (List.map Char.ofNat initA ++ Char.ofNat 32 :: (List.map Char.ofNat initB ++ Char.ofNat 32 :: (List.map Char.ofNat initC ++ Char.ofNat 32 :: List.map Char.ofNat initR))) := by kernel_rfl
theorem init_words : ∃ rest, behindMainWord (wordsSigns Try.prog.initOrder.toList) = "cut".toList :: rest := by
 rw [init_eq, String.toList_ofList, wordsSigns_word _ _ (by decide), wordsSigns_word _ _ (by decide), wordsSigns_word _ _ (by decide)]
 generalize wordsSigns (List.map Char.ofNat initR) = rest
 exact ⟨rest, by
  have h1 : ("harness".toList : List Char) = List.map Char.ofNat initA := by decide
  have h2 : isSumSigns (List.map Char.ofNat initB) = true := by decide
  have h3 : ("cut".toList : List Char) = List.map Char.ofNat initC := by decide
  rw [behindMainWord, h2, ← h1, ← h3]
  simp⟩
theorem strip_cut (rest : List (List Char)) : stripLifts liftWords ("cut".toList :: rest) = ([], "cut".toList :: rest) := by
 simp [stripLifts, liftWords]
theorem mayEnter_cut {P : Program} {rest : List (List Char)} (h : behindMainWord (wordsSigns P.initOrder.toList) = "cut".toList :: rest) (h1 : P.laysLater = false) (h2 : P.bearsReflect = false) (h3 : P.doorFits [] = true) : P.mayEnter = true := by
 rw [Program.mayEnter, h]
 simp only [strip_cut, h1, h2, h3]
 simp
theorem headLifts_cut {P : Program} {rest : List (List Char)} (h : behindMainWord (wordsSigns P.initOrder.toList) = "cut".toList :: rest) : P.headLifts = [] := by
 rw [Program.headLifts, h]
 simp only [strip_cut]
 simp
theorem liftsFinal_cut {P : Program} {rest : List (List Char)} (h : behindMainWord (wordsSigns P.initOrder.toList) = "cut".toList :: rest) : P.liftsFinal = false := by
 rw [Program.liftsFinal, h, headLifts_cut h]
 simp
theorem make_cut {P : Program} {rest : List (List Char)} (h : behindMainWord (wordsSigns P.initOrder.toList) = "cut".toList :: rest) : P.make = some .cut := by
 rw [Program.make, h]
 simp
theorem seat_lays : Try.prog.laysLater = false := by kernel_rfl
theorem seat_reflect : Try.prog.bearsReflect = false := by kernel_rfl
theorem seat_door : Try.prog.doorFits [] = true := by kernel_rfl
theorem seat_enter : Try.prog.mayEnter = true := let ⟨_, h⟩ := init_words; mayEnter_cut h seat_lays seat_reflect seat_door
theorem seat_final : Try.prog.liftsFinal = false := let ⟨_, h⟩ := init_words; liftsFinal_cut h
theorem seat_make : Try.prog.make = some .cut := let ⟨_, h⟩ := init_words; make_cut h
end Go.Proofs.Ytoccjgcokffkbaa
