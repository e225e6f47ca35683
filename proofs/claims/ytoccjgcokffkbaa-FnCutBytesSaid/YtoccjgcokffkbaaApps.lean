/- Writes that are put behind the files of a disk: the plain law. -/
import Derived.Test.YtoccjgcokffkbaaCut
namespace Go.Proofs.Ytoccjgcokffkbaa
set_option linter.unusedVariables false
set_option linter.unusedSimpArgs false

def Apps : List ByteArray → List Wri → Prop
 | _, [] => True
 | d, x :: r => 0 ≤ x.file ∧ x.file ≤ 2 ∧ x.pos = (d.getD x.file.toNat ByteArray.empty).size ∧ x.text.size ≤ 8 ∧ Apps (putL d x) r
def Sm (d : List ByteArray) (N : Nat) : Prop := d.length = 3 ∧ ∀ s ∈ d, s.size ≤ N
/-- each file goes on from what it was -/
def BegD (a b : List ByteArray) : Prop := a.length = b.length ∧ ∀ i, ∃ c, b.getD i ByteArray.empty = a.getD i ByteArray.empty ++ c
theorem BegD.refl (a : List ByteArray) : BegD a a := ⟨rfl, fun i => ⟨ByteArray.empty, by apply ByteArray.ext; simp⟩⟩
theorem BegD.trans {a b c : List ByteArray} (h : BegD a b) (k : BegD b c) : BegD a c := ⟨h.1.trans k.1, fun i => by
 obtain ⟨x, hx⟩ := h.2 i
 obtain ⟨y, hy⟩ := k.2 i
 exact ⟨x ++ y, by rw [hy, hx, ByteArray.append_assoc]⟩⟩
theorem cutPut_end (s t : ByteArray) : cutPut s (s.size : Nat) t = s ++ t := by
 rw [cutPut, Int.toNat_natCast]
 congr 1
 apply ByteArray.ext
 simp
theorem app_put {d : List ByteArray} {N : Nat} {x : Wri} (hs : Sm d N) (hN : N ≤ 299000) (h0 : 0 ≤ x.file) (h2 : x.file ≤ 2) (hp : x.pos = (d.getD x.file.toNat ByteArray.empty).size) (ht : x.text.size ≤ 8) :
  writeOk d x = true ∧ Sm (putL d x) (N + 8) ∧ BegD d (putL d x) := by
 obtain ⟨k, hk⟩ : ∃ k, k = x.file.toNat := ⟨_, rfl⟩
 have hk3 : k < d.length := by rw [hs.1]; omega
 have hg : d.getD k ByteArray.empty = d[k] := by rw [List.getD_eq_getElem?_getD, List.getElem?_eq_getElem hk3]; rfl
 have hsz := hs.2 d[k] (List.getElem_mem hk3)
 have hpl : putL d x = d.set k (d[k] ++ x.text) := by rw [putL, hp, ← hk, hg, cutPut_end]
 refine ⟨?_, ?_, ?_⟩
 ·rw [writeOk, Bool.and_eq_true, diskOk, Bool.and_eq_true, filesOk, List.all_eq_true, fitsD, Bool.and_eq_true, Bool.and_eq_true]
  refine ⟨⟨decide_eq_true hs.1, fun s hm => decide_eq_true (by have := hs.2 s hm; omega)⟩, inR_true.2 ⟨h0, by rw [hs.1]; omega⟩, inR_true.2 ⟨by rw [hp]; omega, by rw [hp]; omega⟩, decide_eq_true (by rw [hp, ← hk, hg]; omega)⟩
 ·rw [hpl]
  refine ⟨by rw [List.length_set]; exact hs.1, fun s hm => ?_⟩
  rcases List.mem_or_eq_of_mem_set hm with h | h
  ·have := hs.2 s h; omega
  ·rw [h, ByteArray.size_append]; omega
 ·rw [hpl]
  refine ⟨by rw [List.length_set], fun i => ?_⟩
  by_cases hik : k = i
  ·subst hik
   refine ⟨x.text, ?_⟩
   rw [hg, List.getD_eq_getElem?_getD, List.getElem?_set_self hk3]; rfl
  ·refine ⟨ByteArray.empty, ?_⟩
   rw [List.getD_eq_getElem?_getD, List.getElem?_set_ne hik, ← List.getD_eq_getElem?_getD]
   apply ByteArray.ext; simp
theorem fits_of {d : List ByteArray} {x : Wri} (h : writeOk d x = true) : fitsD d x = true := by rw [writeOk, Bool.and_eq_true] at h; exact h.2
theorem apps_all : ∀ {ws : List Wri} {d : List ByteArray} {N : Nat}, Sm d N → N + 8 * ws.length ≤ 299000 → Apps d ws → putAllN d ws = ws.length ∧ BegD d (putAllL d ws) ∧ Sm (putAllL d ws) (N + 8 * ws.length)
 | [], d, N, hs, _, _ => ⟨rfl, BegD.refl d, hs⟩
 | x :: r, d, N, hs, hN, ⟨h0, h2, hp, ht, ha⟩ => by
   rw [List.length_cons] at hN ⊢
   obtain ⟨k1, k2, k3⟩ := app_put hs (by omega) h0 h2 hp ht
   obtain ⟨j1, j2, j3⟩ := apps_all k2 (by omega) ha
   rw [putAllN, putAllL, if_pos (fits_of k1), if_pos (fits_of k1), j1]
   exact ⟨rfl, k3.trans j2, by rw [show N + 8 * (r.length + 1) = N + 8 + 8 * r.length by omega]; exact j3⟩
theorem apps_take : ∀ {ws : List Wri} {d : List ByteArray} (k : Nat), Apps d ws → Apps d (ws.take k)
 | [], d, k, _ => by rw [List.take_nil]; exact trivial
 | x :: r, d, 0, _ => trivial
 | x :: r, d, k + 1, ⟨h0, h2, hp, ht, ha⟩ => ⟨h0, h2, hp, ht, apps_take k ha⟩
theorem cutW_size (x : Wri) (p : Nat) : (cutW x p).text.size ≤ x.text.size := by
 show (x.text.extract 0 (p : Int).toNat).size ≤ _
 rw [ByteArray.size_extract]; omega
theorem apps_cut : ∀ {ws : List Wri} {d : List ByteArray} {k p : Nat} {x : Wri}, Apps d ws → ws[k]? = some x → Apps d (ws.take k ++ [cutW x p])
 | [], d, k, p, x, _, h => by rw [List.getElem?_nil] at h; cases h
 | y :: r, d, 0, p, x, ⟨h0, h2, hp, ht, _⟩, h => by
   rw [List.getElem?_cons_zero] at h
   cases h
   exact ⟨h0, h2, hp, Nat.le_trans (cutW_size y p) ht, trivial⟩
 | y :: r, d, k + 1, p, x, ⟨h0, h2, hp, ht, ha⟩, h => ⟨h0, h2, hp, ht, apps_cut ha (by rwa [List.getElem?_cons_succ] at h)⟩
theorem take_beg : ∀ {ws : List Wri} {d : List ByteArray} {N : Nat} (k : Nat), Sm d N → N + 8 * ws.length ≤ 299000 → Apps d ws → BegD (putAllL d (ws.take k)) (putAllL d ws)
 | [], d, N, k, _, _, _ => by rw [List.take_nil]; exact BegD.refl _
 | x :: r, d, N, 0, hs, hN, ha => (apps_all hs hN ha).2.1
 | x :: r, d, N, k + 1, hs, hN, ⟨h0, h2, hp, ht, ha⟩ => by
   rw [List.length_cons] at hN
   obtain ⟨k1, k2, k3⟩ := app_put hs (by omega) h0 h2 hp ht
   rw [List.take_succ_cons, putAllL, putAllL, if_pos (fits_of k1), if_pos (fits_of k1)]
   exact take_beg k k2 (by omega) ha
theorem putL_end {d : List ByteArray} {x : Wri} (hl : d.length = 3) (h0 : 0 ≤ x.file) (h2 : x.file ≤ 2) (hp : x.pos = (d.getD x.file.toNat ByteArray.empty).size) : putL d x = d.set x.file.toNat (d.getD x.file.toNat ByteArray.empty ++ x.text) := by
 rw [putL, hp, cutPut_end]
theorem cut_put {d : List ByteArray} {x : Wri} (p : Nat) (hl : d.length = 3) (h0 : 0 ≤ x.file) (h2 : x.file ≤ 2) (hp : x.pos = (d.getD x.file.toNat ByteArray.empty).size) : BegD (putL d (cutW x p)) (putL d x) := by
 rw [putL_end hl h0 h2 hp, putL_end (x := cutW x p) hl h0 h2 hp]
 refine ⟨by rw [List.length_set, List.length_set], fun i => ?_⟩
 have hk3 : x.file.toNat < d.length := by omega
 by_cases hik : x.file.toNat = i
 ·subst hik
  refine ⟨x.text.extract p x.text.size, ?_⟩
  rw [List.getD_eq_getElem?_getD, List.getElem?_set_self hk3, List.getD_eq_getElem?_getD (l := d.set _ _)]
  show _ = (((d.set x.file.toNat _)[x.file.toNat]?).getD _) ++ _
  rw [List.getElem?_set_self hk3]
  show _ ++ x.text = (_ ++ x.text.extract 0 (p : Int).toNat) ++ _
  rw [ByteArray.append_assoc, Int.toNat_natCast]
  congr 1
  apply ByteArray.ext
  simp
 ·refine ⟨ByteArray.empty, ?_⟩
  rw [List.getD_eq_getElem?_getD, List.getElem?_set_ne hik, List.getD_eq_getElem?_getD (l := d.set _ _)]
  show _ = (((d.set x.file.toNat _)[i]?).getD _) ++ _
  rw [List.getElem?_set_ne hik]
  apply ByteArray.ext; simp
theorem cut_beg : ∀ {ws : List Wri} {d : List ByteArray} {N k p : Nat} {x : Wri}, Sm d N → N + 8 * ws.length ≤ 299000 → Apps d ws → ws[k]? = some x → BegD (putAllL d (ws.take k ++ [cutW x p])) (putAllL d ws)
 | [], d, N, k, p, x, _, _, _, h => by rw [List.getElem?_nil] at h; cases h
 | y :: r, d, N, 0, p, x, hs, hN, ⟨h0, h2, hp, ht, ha⟩, h => by
   rw [List.getElem?_cons_zero] at h
   cases h
   rw [List.length_cons] at hN
   obtain ⟨k1, k2, k3⟩ := app_put hs (by omega) h0 h2 hp ht
   obtain ⟨c1, _, _⟩ := app_put (x := cutW y p) hs (by omega) h0 h2 hp (Nat.le_trans (cutW_size y p) ht)
   rw [List.take_zero, List.nil_append, putAllL, if_pos (fits_of c1), putAllL, putAllL, if_pos (fits_of k1)]
   exact (cut_put p hs.1 h0 h2 hp).trans (apps_all k2 (by omega) ha).2.1
 | y :: r, d, N, k + 1, p, x, hs, hN, ⟨h0, h2, hp, ht, ha⟩, h => by
   rw [List.length_cons] at hN
   obtain ⟨k1, k2, k3⟩ := app_put hs (by omega) h0 h2 hp ht
   rw [List.take_succ_cons, List.cons_append, putAllL, putAllL, if_pos (fits_of k1), if_pos (fits_of k1)]
   exact cut_beg k2 (by omega) ha (by rwa [List.getElem?_cons_succ] at h)
end Go.Proofs.Ytoccjgcokffkbaa
