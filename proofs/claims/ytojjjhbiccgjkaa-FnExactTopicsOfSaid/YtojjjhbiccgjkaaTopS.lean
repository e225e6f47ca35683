/- TopicsOf of the reference. -/
import Derived.Test.YtojjjhbiccgjkaaTopI
import Derived.Test.YtojjjhbiccgjkaaGrw4
namespace Go.Proofs.Ytojjjhbiccgjkaa
set_option linter.unusedVariables false
set_option linter.unusedSimpArgs false
open Go.RowKit Go.Sort

def boolN : Value → Nat
  | .bool true => 1
  | _ => 0
theorem topic_ne {l : List Ent} (h : logOk l = true) : ∀ x ∈ l, x.topic.data.toList ≠ [] := by
  rw [logOk, Bool.and_eq_true, rightTo, List.all_eq_true] at h
  intro x hx
  obtain ⟨k, hk, rfl⟩ := List.mem_iff_getElem.1 hx
  have h1 := h.2 k (List.mem_range.2 hk)
  rw [rightAt_eq (List.getElem?_eq_getElem hk), Bool.and_eq_true, entryOk, Bool.and_eq_true, nameOk, Bool.and_eq_true] at h1
  have h2 := inR_true.1 h1.1.1.1
  intro e
  have : (l[k]).topic.size = 0 := by show (l[k]).topic.data.size = 0; rw [← Array.length_toList, e]; rfl
  omega
theorem less_TB (t : ByteArray) (y : List UInt8) : Op.bytesLess t.toList (TB y).toList = decide (t.data.toList < y) := by rw [bytesLess_eq, ByteArray.toList_eq, ByteArray.toList_eq]; rfl
theorem eq_TB (t : ByteArray) (y : List UInt8) : (t.toList == (TB y).toList) = decide (t.data.toList = y) := by
  rw [ByteArray.toList_eq, ByteArray.toList_eq]
  show (t.data.toList == y) = _
  by_cases h : t.data.toList = y
  · rw [decide_eq_true h]; exact beq_iff_eq.2 h
  · rw [decide_eq_false h]; exact beq_eq_false_iff_ne.2 h
set_option maxRecDepth 100000 in
set_option maxHeartbeats 4000000 in
theorem specTopicsOf_c (A : Option Addr) (c lo hi n : Nat) (l : List Ent) (w : World) (hr : Rd w lo hi A (ents l)) (hn : l.length = n) (hl : n ≤ 1048576) (hcap : n ≤ c) (hf : ∀ x ∈ l, x.fits) :
    Calls Try.prog 86 #[.agg #[.slice A n c]] w fun e w' => ∃ A' c', e = .returned (.slice A' (topM l).length c') ∧ Own w' w.heap.size w'.heap.size A' (strs (topM l)) ∧ Below w.heap.size w w' := by
  have HLG := Lib.hid (fun W (h : Rd W 0 W.heap.size A (ents l)) => specLogOk_c A c 0 W.heap.size n l W h hn hl hcap hf)
  have HN := Lib.hid hn
  have HR := Lib.hid hr.base
  rcases hq : logOk l with _ | _
  · have HT : Hid (topM l = []) := Lib.hid (by rw [topM, hq]; rfl)
    rw [hq] at HLG
    clear hr hn hf hq
    have HB : Hid (Below w.heap.size w w) := Below.refl _ _
    go_enter Try.func86, Try.ntmps86
    go_wp2_with fail
    refine calls_named (fun w1 hw => ?_)
    have hz1 : w.heap.size + 2 ≤ w1.heap.size := by rw [hw]; first | omega | (simp [World.setCell]; done) | (simp [World.setCell]; omega)
    have hzz1 : w.heap.size ≤ w1.heap.size := by omega
    replace HB : Hid (Below w.heap.size w w1) := by rw [Hid, hw]; exact (by ((repeat (first | ((with_reducible refine Below.alloc ?_ ?_ _); rotate_left 1; (focus (first | omega | (simp; done) | (simp; omega)))) | (with_reducible refine Below.drew ?_) | ((with_reducible refine Below.setCell ?_ ?_ _); rotate_left 1; (focus (first | omega | (simp; done) | (simp; omega)))))); exact HB.out))
    have HXb : Hid (NewBox w1 (w.heap.size) [.slice A n c]) := by rw [Hid, hw]; exact ⟨by first | omega | (simp [World.setCell]; done) | (simp [World.setCell]; omega), fun o => by rcases o with _ | o <;> go_simp, fun o => by go_simp⟩
    have hxb := HXb.out.2.1
    have hfb := HXb.out.2.2
    have hkb := HXb.out.1
    have HXz : Hid (NewBox w1 (w.heap.size + 1) []) := by rw [Hid, hw]; exact ⟨by first | omega | (simp [World.setCell]; done) | (simp [World.setCell]; omega), fun o => by rcases o with o <;> go_simp, fun o => by go_simp⟩
    have hxz := HXz.out.2.1
    have hfz := HXz.out.2.2
    have hkz := HXz.out.1
    clear hw
    refine (HLG.out _ (HR.out.below HB.out).base).mono ?_
    rintro e w2 ⟨rfl, hb⟩
    have hzw2 : w1.heap.size ≤ w2.heap.size := hb.size
    have hzzw2 : w.heap.size ≤ w2.heap.size := by omega
    replace HB : Hid (Below w.heap.size w w2) := below_then HB.out hb HB.out.size
    replace HXb : Hid (NewBox w2 (w.heap.size) [.slice A n c]) := HXb.out.below hb
    clear hxb hfb hkb
    have hxb := HXb.out.2.1
    have hfb := HXb.out.2.2
    have hkb := HXb.out.1
    replace HXz : Hid (NewBox w2 (w.heap.size + 1) []) := HXz.out.below hb
    clear hxz hfz hkz
    have hxz := HXz.out.2.1
    have hfz := HXz.out.2.2
    have hkz := HXz.out.1
    clear hb
    go_wp2
    refine wp_loop_once ?_
    go_wp2
    go_ret
    rw [HT.out]
    exact ⟨_, _, rfl, Own.nil, HB.out⟩
  · have HT : Hid (topM l = (topS (tops l)).map TB) := Lib.hid (by rw [topM, hq]; rfl)
    have HNE : Hid (∀ x ∈ l, x.topic.data.toList ≠ []) := Lib.hid (topic_ne hq)
    have HTL : Hid ((tops l).length = n) := Lib.hid (by rw [tops, List.length_map, hn])
    have HTE : Hid (tops l = l.map fun e => e.topic.data.toList) := Lib.hid rfl
    rw [hq] at HLG
    have hSn : (topS (tops l)).length ≤ n := by
      have := compact_length_le' ((tops l).mergeSort fun x y => decide (x ≤ y))
      rw [List.length_mergeSort, tops, List.length_map, hn] at this
      exact this
    obtain ⟨S, hS⟩ : ∃ S, S = topS (tops l) := ⟨_, rfl⟩
    rw [← hS] at HT hSn
    have HS := Lib.hid hS
    clear hr hn hf hq hS
    generalize tops l = ts at *
    have HB : Hid (Below w.heap.size w w) := Below.refl _ _
    go_enter Try.func86, Try.ntmps86
    go_wp2_with fail
    refine calls_named (fun w1 hw => ?_)
    have hz1 : w.heap.size + 2 ≤ w1.heap.size := by rw [hw]; first | omega | (simp [World.setCell]; done) | (simp [World.setCell]; omega)
    have hzz1 : w.heap.size ≤ w1.heap.size := by omega
    replace HB : Hid (Below w.heap.size w w1) := by rw [Hid, hw]; exact (by ((repeat (first | ((with_reducible refine Below.alloc ?_ ?_ _); rotate_left 1; (focus (first | omega | (simp; done) | (simp; omega)))) | (with_reducible refine Below.drew ?_) | ((with_reducible refine Below.setCell ?_ ?_ _); rotate_left 1; (focus (first | omega | (simp; done) | (simp; omega)))))); exact HB.out))
    have HXb : Hid (NewBox w1 (w.heap.size) [.slice A n c]) := by rw [Hid, hw]; exact ⟨by first | omega | (simp [World.setCell]; done) | (simp [World.setCell]; omega), fun o => by rcases o with _ | o <;> go_simp, fun o => by go_simp⟩
    have hxb := HXb.out.2.1
    have hfb := HXb.out.2.2
    have hkb := HXb.out.1
    have HXz : Hid (NewBox w1 (w.heap.size + 1) []) := by rw [Hid, hw]; exact ⟨by first | omega | (simp [World.setCell]; done) | (simp [World.setCell]; omega), fun o => by rcases o with o <;> go_simp, fun o => by go_simp⟩
    have hxz := HXz.out.2.1
    have hfz := HXz.out.2.2
    have hkz := HXz.out.1
    have HROW : Hid ((w1).ownsRow (w.heap.size + 1) 9 1 (.slice (some ⟨w.heap.size + 1, 0, none⟩) 0 0) 0 []) := by rw [Hid, hw]; simpa using row_made (w.alloc _) 9 0
    clear hw
    refine (HLG.out _ (HR.out.below HB.out).base).mono ?_
    rintro e wC ⟨rfl, hb⟩
    have hzwC : w1.heap.size ≤ wC.heap.size := hb.size
    have hzzwC : w.heap.size ≤ wC.heap.size := by omega
    replace HB : Hid (Below w.heap.size w wC) := below_then HB.out hb HB.out.size
    replace HXb : Hid (NewBox wC (w.heap.size) [.slice A n c]) := HXb.out.below hb
    clear hxb hfb hkb
    have hxb := HXb.out.2.1
    have hfb := HXb.out.2.2
    have hkb := HXb.out.1
    replace HXz : Hid (NewBox wC (w.heap.size + 1) []) := HXz.out.below hb
    clear hxz hfz hkz
    have hxz := HXz.out.2.1
    have hfz := HXz.out.2.2
    have hkz := HXz.out.1
    have HROW2 := Lib.hid (row_below HROW.out hb)
    clear hb HROW HLG
    go_wp2
    go_loopw [3, 4, 5, 6, 7] (fun v o _ _ _ wx => ∃ (k : Nat) (A0 : Option Addr) (c0 : Nat) (q : Bool), v = .slice A0 k c0 ∧ o = .bool q ∧ k ≤ S.length ∧ (q = false → k = S.length) ∧ wx.ownsRow (w.heap.size + 1) 9 1 (.slice A0 k c0) k (strs ((S.take k).map TB)) ∧ Below w.heap.size w wx ∧ NewBox wx w.heap.size [.slice A n c]) (fun v o _ _ _ _ => 2 * (S.length - lenOfV v) + boolN o)
    case atStart => exact ⟨0, _, 0, true, rfl, rfl, Nat.zero_le _, (fun h => by cases h), HROW2.out, HB.out, HXb.out⟩
    case round =>
      clear HROW2 HB HXb hxb hfb hkb
      obtain ⟨k, A0, c0, q, rfl, rfl, hk, hqk, how, hbr, hbx⟩ := hrel
      have HOW := Lib.hid how
      have HBR := Lib.hid hbr
      have HBX := Lib.hid hbx
      have hx := hbx.2.1
      have hbx1 := Lib.hid hbx.1
      clear hbr
      rcases q with _ | _
      · have hkS := hqk rfl
        have htk : S.take k = S := List.take_of_length_le (by omega)
        have HOWN := Lib.hid (Own.of_ownsRow how)
        rw [htk] at HOWN
        clear how hqk hbx
        go_wp2
        go_ret
        rw [HT.out, List.length_map, ← hkS]
        exact ⟨_, _, rfl, HOWN.out.mono (by omega) (Nat.le_refl _) (Nat.le_refl _), HBR.out⟩
      · clear hqk hbx
        go_wp2
        go_loop [5, 6, 7] (fun x i _ => ∃ (j : Nat) (y : List UInt8), j ≤ n ∧ i = .int .i64 j ∧ x = .string (TB y) ∧ Least ts k j y) (fun _ i _ => n - (intOf i).toNat)
        case atStart => exact ⟨0, [], Nat.zero_le _, rfl, rfl, Least.start ts k⟩
        case round =>
          obtain ⟨j, y, hj, rfl, rfl, hle⟩ := hrel
          have HLE := Lib.hid hle
          clear hle
          by_cases hlt : j < n
          · obtain ⟨b, off, x, rfl, hb, hxx, hc⟩ := ent_cells (HR.out.below HBR.out) (k := j) (by rw [HN.out]; exact hlt)
            have hc0 := hc.1
            have HTJ : Hid (ts[j]? = some x.topic.data.toList) := Lib.hid (by rw [HTE.out, List.getElem?_map, hxx]; rfl)
            have HNX := Lib.hid (HNE.out x (List.mem_of_getElem? hxx))
            have hI : (j : Int) < n := by omega
            have E3 : (n : Int) ≤ (c : Int) := by omega
            clear hc hxx
            generalize x.topic = t at *
            rcases Nat.eq_zero_or_pos k with hk0 | hk0
            · subst hk0
              by_cases hy : y = []
              · have F1 : (TB y).toList = [] := by rw [ByteArray.toList_eq, hy]; rfl
                have F1b : (TB y).toList.isEmpty = true := by rw [F1]; rfl
                have HY := Lib.hid hy
                clear hy
                go_wp2
                go_round
                case rel => exact ⟨j + 1, t.data.toList, by omega, by go_num, rfl, HLE.out.take HTJ.out (.inl rfl) HNX.out (.inl HY.out)⟩
                case measure => simp [intOf]; omega
              · have F1 : ¬ (TB y).toList = [] := by rw [ByteArray.toList_eq]; exact hy
                have F1b : (TB y).toList.isEmpty = false := by rcases h : (TB y).toList with _ | _; exact absurd h F1; rfl
                have HY := Lib.hid hy
                clear hy
                by_cases hy2 : t.data.toList < y
                · have F2 : Op.bytesLess t.toList (TB y).toList = true := by rw [less_TB]; exact decide_eq_true hy2
                  have HY2 := Lib.hid hy2
                  clear hy2
                  go_wp2
                  go_round
                  case rel => exact ⟨j + 1, t.data.toList, by omega, by go_num, rfl, HLE.out.take HTJ.out (.inl rfl) HNX.out (.inr HY2.out)⟩
                  case measure => simp [intOf]; omega
                · have F2 : Op.bytesLess t.toList (TB y).toList = false := by rw [less_TB]; exact decide_eq_false hy2
                  have HY2 := Lib.hid hy2
                  clear hy2
                  go_wp2
                  go_round
                  case rel => exact ⟨j + 1, y, by omega, by go_num, rfl, HLE.out.skip HTJ.out (.inr ⟨HY.out, HY2.out⟩)⟩
                  case measure => simp [intOf]; omega
            · obtain ⟨k1, hk1⟩ : ∃ k1, k1 = k - 1 := ⟨_, rfl⟩
              obtain ⟨s, hs⟩ : ∃ s, S[k - 1]? = some s := ⟨_, List.getElem?_eq_getElem (by omega)⟩
              have HSK : Hid ((topS ts)[k - 1]? = some s) := Lib.hid (by rw [← HS.out]; exact hs)
              obtain ⟨g, cap, hge⟩ := row_form how hk0
              injection hge with hge1 _ hge2
              subst hge1
              subst hge2
              have hgc := how.cellAt k1 (by omega)
              have hgs : (strs ((S.take k).map TB))[k1]? = some (.string (TB s)) := strs_get (by rw [List.getElem?_map, List.getElem?_take, if_pos (by omega), hk1, hs]; rfl)
              rw [hgs] at hgc
              have hgl := (how.lt g rfl).2
              have E1 : IntKind.i64.wrap ((k : Int) - 1) = k1 := by rw [IntKind.wrap_i64]; omega
              have E2 : (k : Int) - 1 = k1 := by omega
              have E5 : (k1 : Int) < k := by omega
              have E6 : ((k : Int) == 0) = false := beq_eq_false_iff_ne.2 (by omega)
              have hkk := Lib.hid hk1
              have HK0 := Lib.hid hk0
              clear hk1 hs hgs how
              by_cases hlt1 : s < t.data.toList
              · have F4 : Op.bytesLess t.toList (TB s).toList = false := by rw [less_TB]; exact decide_eq_false (fun h => l8_irr _ (l8_trans h hlt1))
                have F5 : (t.toList == (TB s).toList) = false := by rw [eq_TB]; exact decide_eq_false (fun h => l8_irr s (by rw [h] at hlt1; exact hlt1))
                have HL1 := Lib.hid hlt1
                clear hlt1
                by_cases hy : y = []
                · have F1 : (TB y).toList = [] := by rw [ByteArray.toList_eq, hy]; rfl
                  have F1b : (TB y).toList.isEmpty = true := by rw [F1]; rfl
                  have HY := Lib.hid hy
                  clear hy
                  go_wp2
                  go_round
                  case rel => exact ⟨j + 1, t.data.toList, by omega, by go_num, rfl, HLE.out.take HTJ.out (.inr ⟨s, HSK.out, HL1.out⟩) HNX.out (.inl HY.out)⟩
                  case measure => simp [intOf]; omega
                · have F1 : ¬ (TB y).toList = [] := by rw [ByteArray.toList_eq]; exact hy
                  have F1b : (TB y).toList.isEmpty = false := by rcases h : (TB y).toList with _ | _; exact absurd h F1; rfl
                  have HY := Lib.hid hy
                  clear hy
                  by_cases hy2 : t.data.toList < y
                  · have F2 : Op.bytesLess t.toList (TB y).toList = true := by rw [less_TB]; exact decide_eq_true hy2
                    have HY2 := Lib.hid hy2
                    clear hy2
                    go_wp2
                    go_round
                    case rel => exact ⟨j + 1, t.data.toList, by omega, by go_num, rfl, HLE.out.take HTJ.out (.inr ⟨s, HSK.out, HL1.out⟩) HNX.out (.inr HY2.out)⟩
                    case measure => simp [intOf]; omega
                  · have F2 : Op.bytesLess t.toList (TB y).toList = false := by rw [less_TB]; exact decide_eq_false hy2
                    have HY2 := Lib.hid hy2
                    clear hy2
                    go_wp2
                    go_round
                    case rel => exact ⟨j + 1, y, by omega, by go_num, rfl, HLE.out.skip HTJ.out (.inr ⟨HY.out, HY2.out⟩)⟩
                    case measure => simp [intOf]; omega
              · have HNL : Hid (¬ s < t.data.toList) := Lib.hid hlt1
                by_cases hlt2 : t.data.toList < s
                · have F4 : Op.bytesLess t.toList (TB s).toList = true := by rw [less_TB]; exact decide_eq_true hlt2
                  clear hlt1 hlt2
                  go_wp2
                  go_round
                  case rel => exact ⟨j + 1, y, by omega, by go_num, rfl, HLE.out.skip HTJ.out (.inl (fun ha => by have h9 := HK0.out; rcases ha with h0 | ⟨s', h1, h2⟩; omega; rw [HSK.out] at h1; cases h1; exact HNL.out h2))⟩
                  case measure => simp [intOf]; omega
                · have F4 : Op.bytesLess t.toList (TB s).toList = false := by rw [less_TB]; exact decide_eq_false hlt2
                  have F5 : (t.toList == (TB s).toList) = true := by rw [eq_TB]; exact decide_eq_true (List.le_antisymm (List.not_lt.1 hlt1) (List.not_lt.1 hlt2))
                  clear hlt1 hlt2
                  go_wp2
                  go_round
                  case rel => exact ⟨j + 1, y, by omega, by go_num, rfl, HLE.out.skip HTJ.out (.inl (fun ha => by have h9 := HK0.out; rcases ha with h0 | ⟨s', h1, h2⟩; omega; rw [HSK.out] at h1; cases h1; exact HNL.out h2))⟩
                  case measure => simp [intOf]; omega
          · obtain rfl : j = n := by omega
            have hfin := HLE.out
            rw [← HTL.out] at hfin
            obtain ⟨hf1, hf2⟩ := Least.fin hfin (by rw [← HS.out]; exact hk)
            rw [← HS.out] at hf1 hf2
            by_cases hy : y = []
            · have hkS := hf1 hy
              have F1 : (TB y).toList = [] := by rw [ByteArray.toList_eq, hy]; rfl
              have F1b : (TB y).toList.isEmpty = true := by rw [F1]; rfl
              have HKS := Lib.hid hkS
              clear hf1 hf2 hfin hy hkS how
              go_wp2
              go_roundw
              case rel => exact ⟨k, A0, c0, false, rfl, rfl, by have := HKS.out; omega, fun _ => HKS.out, HOW.out, HBR.out, HBX.out⟩
              case measure => simp [boolN, lenOfV]
            · have hSk := hf2 hy
              have F1 : ¬ (TB y).toList = [] := by rw [ByteArray.toList_eq]; exact hy
              have F1b : (TB y).toList.isEmpty = false := by rcases h : (TB y).toList with _ | _; exact absurd h F1; rfl
              have hkl : k < S.length := (List.getElem?_eq_some_iff.1 hSk).1
              have HTK : Hid (strs ((S.take (k + 1)).map TB) = strs ((S.take k).map TB) ++ strs [TB y]) := Lib.hid (by rw [take_succ hSk, List.map_append, strs_app]; rfl)
              have hbz := HBR.out.size
              clear hf1 hf2 hfin hy hSk how
              go_wp2_with (at_builtin; refine app1Str rfl _ _ rfl (w.heap.size + 1) _ _ _ rfl (HOW.out.alloc _) wr.heap.size (TB y) rfl (NewBox.new wr _ _) (by omega) (by have := hbx1.out; simp; omega) ?_)
              intro v2 w2 hown2 hg2
              have hon := grown_only (HOW.out.alloc _) hg2
              obtain ⟨A2, c2, rfl, _, _, _⟩ := ownsRow_slice hown2
              rw [← List.map_take, ← HTK.out] at hown2
              have HO2 := Lib.hid hown2
              have HB2 : Hid (Below w.heap.size w w2) := below_only (HBR.out.alloc hbz _) hon (by omega) (by simp; omega)
              have HX2 : Hid (NewBox w2 w.heap.size [.slice A j c]) := Lib.hid ((HBX.out.alloc _).only hon (.inl (by omega)))
              clear hown2 hg2 hon
              go_wp2
              go_roundw
              case rel => exact ⟨k + 1, A2, c2, true, rfl, rfl, by omega, (fun h => by cases h), HO2.out, HB2.out, HX2.out⟩
              case measure => simp [boolN, lenOfV]; omega
end Go.Proofs.Ytojjjhbiccgjkaa
