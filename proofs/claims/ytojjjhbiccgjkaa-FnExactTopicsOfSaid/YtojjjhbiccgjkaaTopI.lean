/- TopicsOf of the program. -/
import Derived.Test.YtojjjhbiccgjkaaSrt
import Derived.Test.YtojjjhbiccgjkaaHsh
import Derived.Test.YtojjjhbiccgjkaaRowB
namespace Go.Proofs.Ytojjjhbiccgjkaa
set_option linter.unusedVariables false
set_option linter.unusedSimpArgs false
open Go.RowKit Go.Sort

def tops (l : List Ent) : List (List UInt8) := l.map fun e => e.topic.data.toList
def topM (l : List Ent) : List ByteArray := if logOk l then (topS (tops l)).map TB else []
theorem topM_len (l : List Ent) : (topM l).length ≤ l.length := by
  rw [topM]
  split
  · rw [List.length_map]
    have := compact_length_le' ((tops l).mergeSort fun x y => decide (x ≤ y))
    rw [List.length_mergeSort, tops, List.length_map] at this
    exact this
  · exact Nat.zero_le _
theorem holds_row {w : World} {base g cap n : Nat} {L : List ByteArray} (h : w.ownsRow base 9 1 (.slice (some ⟨g, 0, none⟩) n cap) n (strs L)) (hn : L.length = n) : Holds encStr w g 0 (L.map fun s => s.data.toList).toArray := by
  intro j hj
  have hj' : j < L.length := by simpa using hj
  have hc := h.cellAt j (by omega)
  rw [strs_get (List.getElem?_eq_getElem hj')] at hc
  refine ⟨?_, ?_⟩
  · rw [Nat.zero_add, hc, getElem!_pos _ j (by simpa using hj')]
    simp only [List.getElem_toArray, List.getElem_map]
  · rcases h.2 with ⟨e, _⟩ | ⟨g', cap', cur, e, _, h3, _⟩
    · cases e
    · cases e; exact frozen_of_row w g _ cur _ h3

set_option maxRecDepth 100000 in
set_option maxHeartbeats 4000000 in
theorem implTopicsOf_c (A : Option Addr) (c lo hi n : Nat) (l : List Ent) (w : World) (hr : Rd w lo hi A (ents l)) (hn : l.length = n) (hl : n ≤ 1048576) (hf : ∀ x ∈ l, x.fits) :
    Calls Try.prog 88 #[.agg #[.slice A n c]] w fun e w' => ∃ A' c', e = .returned (.slice A' (topM l).length c') ∧ Own w' w.heap.size w'.heap.size A' (strs (topM l)) ∧ Below w.heap.size w w' := by
  have HLG := Lib.hid (fun W (h : Rd W 0 W.heap.size A (ents l)) => implLogOk_c A c 0 W.heap.size n l W h hn hl hf)
  have HN := Lib.hid hn
  have HR := Lib.hid hr.base
  rcases hq : logOk l with _ | _
  · have HT : Hid (topM l = []) := Lib.hid (by rw [topM, hq]; rfl)
    rw [hq] at HLG
    rw [HT.out]
    clear hr hn hf hq
    have HB : Hid (Below w.heap.size w w) := Below.refl _ _
    go_enter Try.func88, Try.ntmps88
    go_wp2_with fail
    refine calls_named (fun w1 hw => ?_)
    have hz1 : w.heap.size + 1 ≤ w1.heap.size := by rw [hw]; first | omega | (simp [World.setCell]; done) | (simp [World.setCell]; omega)
    have hzz1 : w.heap.size ≤ w1.heap.size := by omega
    replace HB : Hid (Below w.heap.size w w1) := by rw [Hid, hw]; exact (by ((repeat (first | ((with_reducible refine Below.alloc ?_ ?_ _); rotate_left 1; (focus (first | omega | (simp; done) | (simp; omega)))) | (with_reducible refine Below.drew ?_) | ((with_reducible refine Below.setCell ?_ ?_ _); rotate_left 1; (focus (first | omega | (simp; done) | (simp; omega)))))); exact HB.out))
    have HXb : Hid (NewBox w1 (w.heap.size) [.slice A n c]) := by rw [Hid, hw]; exact ⟨by first | omega | (simp [World.setCell]; done) | (simp [World.setCell]; omega), fun o => by rcases o with _ | o <;> go_simp, fun o => by go_simp⟩
    have hxb := HXb.out.2.1
    have hfb := HXb.out.2.2
    have hkb := HXb.out.1
    clear hw
    refine (HLG.out _ (HR.out.below HB.out).base).mono ?_
    rintro e w2 ⟨rfl, hb⟩
    have hzw2 : w1.heap.size ≤ w2.heap.size := hb.size
    have hzzw2 : w.heap.size ≤ w2.heap.size := by omega
    replace HB : Hid (Below w.heap.size w w2) := below_then HB.out hb HB.out.size
    replace HXb : Hid (NewBox w2 (w.heap.size) [.slice A n c]) := HXb.out.below hb
    clear hxb hfb hkb
    have hxb := HXb.out.2.1
    have hfb := HXb.out.2.2
    have hkb := HXb.out.1
    clear hb
    go_wp2
    go_ret
    exact ⟨none, 0, rfl, Own.nil, HB.out⟩
  · have HT : Hid (topM l = (topS (tops l)).map TB) := Lib.hid (by rw [topM, hq]; rfl)
    rw [hq] at HLG
    obtain ⟨L, hL⟩ : ∃ L, L = l.map Ent.topic := ⟨_, rfl⟩
    have HLL := Lib.hid hL
    have HTL : Hid (tops l = L.map fun s => s.data.toList) := Lib.hid (by rw [hL, List.map_map]; rfl)
    clear hr hn hf hq hL
    have HB : Hid (Below w.heap.size w w) := Below.refl _ _
    go_enter Try.func88, Try.ntmps88
    go_wp2_with fail
    refine calls_named (fun w1 hw => ?_)
    have hz1 : w.heap.size + 1 ≤ w1.heap.size := by rw [hw]; first | omega | (simp [World.setCell]; done) | (simp [World.setCell]; omega)
    have hzz1 : w.heap.size ≤ w1.heap.size := by omega
    replace HB : Hid (Below w.heap.size w w1) := by rw [Hid, hw]; exact (by ((repeat (first | ((with_reducible refine Below.alloc ?_ ?_ _); rotate_left 1; (focus (first | omega | (simp; done) | (simp; omega)))) | (with_reducible refine Below.drew ?_) | ((with_reducible refine Below.setCell ?_ ?_ _); rotate_left 1; (focus (first | omega | (simp; done) | (simp; omega)))))); exact HB.out))
    have HXb : Hid (NewBox w1 (w.heap.size) [.slice A n c]) := by rw [Hid, hw]; exact ⟨by first | omega | (simp [World.setCell]; done) | (simp [World.setCell]; omega), fun o => by rcases o with _ | o <;> go_simp, fun o => by go_simp⟩
    have hxb := HXb.out.2.1
    have hfb := HXb.out.2.2
    have hkb := HXb.out.1
    clear hw
    refine (HLG.out _ (HR.out.below HB.out).base).mono ?_
    rintro e w2 ⟨rfl, hb⟩
    have hzw2 : w1.heap.size ≤ w2.heap.size := hb.size
    have hzzw2 : w.heap.size ≤ w2.heap.size := by omega
    replace HB : Hid (Below w.heap.size w w2) := below_then HB.out hb HB.out.size
    replace HXb : Hid (NewBox w2 (w.heap.size) [.slice A n c]) := HXb.out.below hb
    clear hxb hfb hkb
    have hxb := HXb.out.2.1
    have hfb := HXb.out.2.2
    have hkb := HXb.out.1
    clear hb
    go_wp2
    clear HLG
    go_loopw [3, 12] (fun v i wx => ∃ (k : Nat) (A0 : Option Addr) (c0 : Nat), k ≤ n ∧ i = .int .i64 k ∧ v = .slice A0 k c0 ∧ wx.ownsRow w.heap.size 9 1 (.slice A0 k c0) k (strs (L.take k)) ∧ Below w.heap.size w wx) (fun _ i _ => n - (intOf i).toNat)
    case atStart => exact ⟨0, none, 0, Nat.zero_le _, rfl, rfl, World.ownsRow_nil _ _ _ _, HB.out⟩
    case round =>
      clear HB
      obtain ⟨k, A0, c0, hk, rfl, rfl, how, hbr⟩ := hrel
      have HBR := Lib.hid hbr
      have HOW := Lib.hid how
      by_cases hlt : k < n
      · obtain ⟨b, off, x, rfl, hb, hx, hc⟩ := ent_cells (HR.out.below HBR.out) (k := k) (by rw [HN.out]; exact hlt)
        have hc0 := hc.1
        have hc1 := hc.2.1
        have hc2 := hc.2.2.1
        have hc3 := hc.2.2.2.1
        have hc4 := hc.2.2.2.2
        have HTK : Hid (L.take (k + 1) = L.take k ++ [x.topic]) := Lib.hid (take_succ (by rw [HLL.out, List.getElem?_map, hx]; rfl))
        have hI : (k : Int) < n := by omega
        clear hc hx how hbr
        go_wp2_with (at_builtin; refine stop_here ?_)
        intro _
        refine wpList_named (fun wN hw => ?_)
        have hrow : wN.ownsRow w.heap.size 9 1 (.slice A0 k c0) k (strs (L.take k)) := by rw [hw]; exact (HOW.out.alloc _).alloc _
        have hbx : NewBox wN (wr.heap.size + 1) [.string x.topic] := by
          rw [hw]
          have h := NewBox.new (wr.alloc (.cells #[.string x.topic, .int .i64 x.index, .int .i64 x.time, .string x.key, .string x.body] 151)) #[.string x.topic] 9
          simpa using h
        have hbN : Below w.heap.size w wN := by rw [hw]; exact (HBR.out.alloc HBR.out.size _).alloc (by have := HBR.out.size; simp; omega) _
        clear hw hc0 hc1 hc2 hc3 hc4
        refine app1Str rfl _ _ rfl w.heap.size _ _ _ rfl hrow (wr.heap.size + 1) x.topic rfl hbx (by omega) hbN.size ?_
        intro v2 w2 hown2 hg2
        have hon := grown_only hrow hg2
        obtain ⟨A2, c2, rfl, _, _, _⟩ := ownsRow_slice hown2
        have HB2 : Hid (Below w.heap.size w w2) := below_only hbN hon (Nat.le_refl _) hbN.size
        rw [← strs_app, ← HTK.out] at hown2
        have HO2 := Lib.hid hown2
        clear hown2 hg2 hon hrow hbx hbN HOW
        go_wp2
        go_roundw
        case rel => exact ⟨k + 1, A2, c2, by omega, by go_num, rfl, HO2.out, HB2.out⟩
        case measure => simp [intOf]; omega
      · obtain rfl : k = n := by omega
        have hLn : L.length = k := by rw [HLL.out, List.length_map, HN.out]
        have htk : L.take k = L := List.take_of_length_le (by omega)
        rw [htk] at how
        clear hlt hbr HOW htk
        rcases how.2 with ⟨e, hk0⟩ | ⟨g, cap, cur, e, hgb, hgc, _⟩
        · injection e with e1 e2 e3
          subst e1
          subst e3
          have hk0' : k = 0 := hk0
          have HT0 : Hid (topM l = []) := Lib.hid (List.eq_nil_of_length_eq_zero (by have := topM_len l; have := HN.out; omega))
          clear how HT HTL HLL HN HR hLn
          subst hk0'
          have HS := Lib.hid (fun W => Any.slices_Sort_string_none laysSort none 0 W)
          have HC := Lib.hid (fun W => Any.slices_Compact_string_empty laysCompact none 0 W)
          rw [fSort] at HS
          rw [fCompact] at HC
          have HP := Lib.hid (fun W => clip0_c 0 W)
          go_wp2_with fail
          refine (HS.out _).mono ?_
          rintro e w1 ⟨rfl, rfl⟩
          go_wp2_with fail
          refine (HC.out _).mono ?_
          rintro e w1 ⟨rfl, rfl⟩
          go_wp2_with fail
          refine (HP.out _).mono ?_
          rintro e w1 ⟨rfl, rfl⟩
          go_wp2
          go_ret
          rw [HT0.out]
          exact ⟨none, 0, rfl, Own.nil, HBR.out⟩
        · injection e with e1 e2 e3
          subst e1
          subst e3
          have hgl := (how.lt g rfl).2
          have hH := holds_row how hLn
          have hfz : ∀ j, wr.frozen? ⟨g, j, none⟩ = false := fun j => frozen_of_row wr g j cur _ hgc
          have hcap : k ≤ c0 := by
            obtain ⟨_, _, e, h1, _⟩ := ownsRow_slice how
            cases e; exact h1
          have HTOP : Hid (topM l = (Lib.compact ((L.map fun s => s.data.toList).mergeSort fun x y => decide (x ≤ y))).map TB) := Lib.hid (by rw [HT.out, HTL.out]; rfl)
          have hzn : (L.map fun s => s.data.toList).length = k := by rw [List.length_map, hLn]
          generalize (L.map fun s => s.data.toList) = zs at *
          have hsn : (zs.mergeSort fun x y => decide (x ≤ y)).length = k := by rw [List.length_mergeSort, hzn]
          have HS := Lib.hid (srt_c g c0 k zs wr hzn hl hgl hH hfz)
          have HC := Lib.hid (fun W h1 h2 h3 => cmp_c g c0 k (zs.mergeSort fun x y => decide (x ≤ y)) W hsn hl hcap h1 h2 h3)
          have hml : (Lib.compact (zs.mergeSort fun x y => decide (x ≤ y))).length ≤ c0 := Nat.le_trans (compact_length_le' _) (by omega)
          clear how hH hfz hgc HT HTL HLL HN HR hLn hzn hsn
          generalize (zs.mergeSort fun x y => decide (x ≤ y)) = ys at *
          have HP := Lib.hid (fun W => clip_c g c0 (Lib.compact ys).length W hml)
          generalize Lib.compact ys = cs at *
          go_wp2_with fail
          refine HS.out.mono ?_
          rintro e w1 ⟨rfl, hH1, hf1, ho1⟩
          have hg1 : g < w1.heap.size := Nat.lt_of_lt_of_le hgl ho1.size
          have HB1 := Lib.hid (below_only HBR.out ho1 hgb HBR.out.size)
          have HH1 := Lib.hid (HC.out w1 hg1 hH1 hf1)
          clear hH1 hf1 ho1 HS HC
          go_wp2_with fail
          refine HH1.out.mono ?_
          rintro e w2 ⟨rfl, hH2, hf2, ho2⟩
          have HB2 := Lib.hid (below_only HB1.out ho2 hgb HB1.out.size)
          have HO2 := Lib.hid (Holds.own hH2 (Nat.lt_of_lt_of_le hg1 ho2.size) hf2)
          have hg2 : g < w2.heap.size := Nat.lt_of_lt_of_le hg1 ho2.size
          clear hH2 hf2 ho2 HH1
          go_wp2_with fail
          refine (HP.out _).mono ?_
          rintro e w3 ⟨rfl, rfl⟩
          go_wp2
          go_ret
          rw [HTOP.out, List.length_map]
          exact ⟨_, _, rfl, HO2.out.mono hgb (by omega) (Nat.le_refl _), HB2.out⟩
end Go.Proofs.Ytojjjhbiccgjkaa
