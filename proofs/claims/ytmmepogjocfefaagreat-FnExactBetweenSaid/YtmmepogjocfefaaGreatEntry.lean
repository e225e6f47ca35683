/- Right entries and receipts. -/
import Derived.Test.YtmmepogjocfefaaGreatName
import Derived.Test.YtmmepogjocfefaaGreatSEntry
namespace Go.Proofs.YtmmepogjocfefaaGreat
set_option linter.unusedVariables false
set_option linter.unusedSimpArgs false
open Go.RowKit

def partsOk (t : Int) (k b : ByteArray) : Bool := inR t 0 1000000000 && (decide (k.size ≤ 40) && decide (b.size ≤ 400))
def entryOk (e : Ent) : Bool := nameOk e.topic && (inR e.index 0 511 && partsOk e.time e.key e.body)

set_option maxRecDepth 100000 in
set_option maxHeartbeats 400000 in
theorem partsOk_c (t : Int) (k b : ByteArray) (w : World) (hk : k.size ≤ maxLen) (hb : b.size ≤ maxLen) :
  Calls Tryz.prog 189 #[.int .i64 t, .string k, .string b] w fun e w' => e = .returned (.bool (partsOk t k b)) ∧ w = w' := by
 unfold maxLen at hk hb
 go_enter Tryz.func189, Tryz.ntmps189
 go_wp2_with fail
 refine (inRange_c _ 0 1000000000 _).mono ?_
 rintro e w1 ⟨rfl, rfl⟩
 rcases h1 : inR t 0 1000000000 with _ | _
 ·go_wp2
  go_ret
  exact ⟨ret_bool (by rw [partsOk, h1]; rfl), rfl⟩
 ·have H1 := Lib.hid h1
  clear h1
  rcases (show k.size ≤ 40 ∨ 40 < k.size by omega) with h2 | h2
  ·go_wp2
   go_ret
   exact ⟨ret_bool (by rw [partsOk, H1.out]; simp [h2]; try omega), rfl⟩
  ·go_wp2
   go_ret
   exact ⟨ret_bool (by rw [partsOk, H1.out]; simp; omega), rfl⟩
set_option maxRecDepth 100000 in
set_option maxHeartbeats 400000 in
theorem implEntryOk_c (e : Ent) (w : World) (hf : e.fits) :
  Calls Tryz.prog 158 #[.agg #[.string e.topic, .int .i64 e.index, .int .i64 e.time, .string e.key, .string e.body]] w fun r w' => r = .returned (.bool (entryOk e)) ∧ Below w.heap.size w w' := by
 obtain ⟨topic, index, time, key, body⟩ := e
 obtain ⟨_, _, htopic, hkey, hbody⟩ := hf
 simp only at htopic hkey hbody
 go_enter Tryz.func158, Tryz.ntmps158
 go_wp2_with fail
 refine (implNameOk_c _ _ htopic).mono ?_
 rintro e w1 ⟨rfl, rfl⟩
 rcases h1 : nameOk topic with _ | _
 ·go_wp2
  go_ret
  exact ⟨ret_bool (by rw [entryOk, h1]; rfl), (Below.refl _ _).alloc (Nat.le_refl _) _⟩
 ·have H1 := Lib.hid h1
  clear h1
  go_wp2_with fail
  refine (isIndex_c _ _).mono ?_
  rintro e w1 ⟨rfl, rfl⟩
  rcases h2 : inR index 0 511 with _ | _
  ·go_wp2
   go_ret
   exact ⟨ret_bool (by rw [entryOk, H1.out, h2]; rfl), (Below.refl _ _).alloc (Nat.le_refl _) _⟩
  ·have H2 := Lib.hid h2
   clear h2
   go_wp2_with fail
   refine (partsOk_c _ _ _ _ hkey hbody).mono ?_
   rintro e w1 ⟨rfl, rfl⟩
   go_wp2
   go_ret
   exact ⟨ret_bool (by rw [entryOk, H1.out, H2.out]; rfl), (Below.refl _ _).alloc (Nat.le_refl _) _⟩
set_option maxRecDepth 100000 in
set_option maxHeartbeats 400000 in
theorem specEntryOk_c (e : Ent) (w : World) (hf : e.fits) :
  Calls Tryz.prog 104 #[.agg #[.string e.topic, .int .i64 e.index, .int .i64 e.time, .string e.key, .string e.body]] w fun r w' => r = .returned (.bool (entryOk e)) ∧ Below w.heap.size w w' := by
 obtain ⟨topic, index, time, key, body⟩ := e
 obtain ⟨_, _, htopic, hkey, hbody⟩ := hf
 simp only at htopic hkey hbody
 have HT := Lib.hid htopic
 simp only [maxLen] at hkey hbody
 go_enter Tryz.func104, Tryz.ntmps104
 go_wp2_with fail
 refine (specNameOk_c _ _ HT.out).mono ?_
 rintro e w1 ⟨rfl, rfl⟩
 rcases h1 : nameOk topic with _ | _
 ·go_wp2
  go_ret
  exact ⟨ret_bool (by rw [entryOk, h1]; rfl), (Below.refl _ _).alloc (Nat.le_refl _) _⟩
 ·have H1 := Lib.hid h1
  clear h1
  go_wp2_with fail
  refine (l01In_c _ 0 511 _).mono ?_
  rintro e w1 ⟨rfl, rfl⟩
  rcases h2 : inR index 0 511 with _ | _
  ·go_wp2
   go_ret
   exact ⟨ret_bool (by rw [entryOk, H1.out, h2]; rfl), (Below.refl _ _).alloc (Nat.le_refl _) _⟩
  ·have H2 := Lib.hid h2
   clear h2
   go_wp2_with fail
   refine (l01In_c _ 0 1000000000 _).mono ?_
   rintro e w1 ⟨rfl, rfl⟩
   rcases h3 : inR time 0 1000000000 with _ | _
   ·go_wp2
    go_ret
    exact ⟨ret_bool (by rw [entryOk, H1.out, H2.out]; simp only [partsOk, h3]; rfl), (Below.refl _ _).alloc (Nat.le_refl _) _⟩
   ·have H3 := Lib.hid h3
    clear h3
    rcases (show key.size ≤ 40 ∨ 40 < key.size by omega) with h4 | h4
    ·go_wp2
     go_ret
     exact ⟨ret_bool (by rw [entryOk, H1.out, H2.out]; simp only [partsOk, H3.out]; simp [h4]; try omega), (Below.refl _ _).alloc (Nat.le_refl _) _⟩
    ·go_wp2
     go_ret
     exact ⟨ret_bool (by rw [entryOk, H1.out, H2.out]; simp only [partsOk, H3.out]; simp; omega), (Below.refl _ _).alloc (Nat.le_refl _) _⟩
end Go.Proofs.YtmmepogjocfefaaGreat
