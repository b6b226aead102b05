/- The contracts of query.word, query.Print and the reference's Print: steps as a text. Conditions: names of at most 2^20 bytes; the tables of chars and of utf hold what the text gives them. -/
import Derived.Test.YtlifdmehejehjaaDoorQReadsPlain
import Derived.Test.YtlifdmehejehjaaDoorQOne
import Derived.Test.YtlifdmehejehjaaDoorQGive
import Derived.Test.YtlifdmehejehjaaDoorDiffPath
import Derived.Test.YtlifdmehejehjaaDoorShelf
namespace Go.Proofs.YtlifdmehejehjaaDoor
open Go.RowKit Go.Proofs.YtlifdmehejehjaaDoor.QPlain Go.Proofs.YtlifdmehejehjaaDoor.UtfPlain Go.Proofs.YtlifdmehejehjaaDoor.NamePlain
set_option linter.unusedVariables false
set_option linter.unusedSimpArgs false
def TellW (s : ByteArray) (w : World) (e : Ending) (w' : World) : Prop := e = .returned (.string s) ∧ Below w.heap.size w w'
theorem stBox (w : World) (a d : Bool) (s : ByteArray) (t : TypeId) : ∃ W, w.alloc (.cells #[.bool a, .bool d, .string s] t) = W ∧ Below w.heap.size w W ∧
    W.cell? ⟨w.heap.size, 0, none⟩ = some (.bool a) ∧ W.cell? ⟨w.heap.size, 1, none⟩ = some (.bool d) ∧ W.cell? ⟨w.heap.size, 2, none⟩ = some (.string s) ∧ w.heap.size < W.heap.size :=
  ⟨_, rfl, (Below.refl _ w).alloc (Nat.le_refl _) _, by simp, by simp, by simp, by simp⟩
theorem emp_iff (s : ByteArray) : (s.toList == []) = decide (s = ⟨#[]⟩) := by
  by_cases h : s = ⟨#[]⟩
  · subst h; simp
  · rw [strEmpty_no h, decide_eq_false h]
set_option maxRecDepth 100000 in
set_option maxHeartbeats 2000000 in
theorem word_any (x : StN) (w : World) (hs : x.nm.size ≤ 1099511627776) (hf : FormsAt w) (ht : Tabs w) :
    Calls Tryd.prog 32 #[.agg #[.bool x.any, .bool x.deep, .string x.nm]] w (TellW (wordP x) w) := by
  obtain ⟨a, d, nm⟩ := x
  obtain ⟨W, hW, hB, c0, c1, c2, hlt⟩ := stBox w a d nm 35
  have C := isPlain_any nm W hs (hf.below hB hf.size) (ht.below hB ht.size)
  have hr : wordP ⟨a, d, nm⟩ = if a then (if d then ⟨#[]⟩ else if nm = ⟨#[]⟩ then ⟨#[42]⟩ else ⟨#[]⟩) else if d then (if nm = ⟨#[]⟩ then ⟨#[42, 42]⟩ else ⟨#[]⟩) else if isN (bsOf nm) true then nm else ⟨#[]⟩ := by
    unfold wordP wordN okW
    cases a <;> cases d <;> by_cases h : nm = ⟨#[]⟩ <;> simp [h]
  have HB := Lib.hid hB
  have E0 := emp_iff nm
  generalize isN (bsOf nm) true = b at *
  generalize wordP ⟨a, d, nm⟩ = r at *
  have C := Lib.hid C
  have HL := Lib.hid hlt
  have HR := Lib.hid hr
  clear hr hf ht hB hlt
  by_cases hn : nm = ⟨#[]⟩
  · rw [decide_eq_true hn] at E0
    subst hn
    cases a <;> cases d <;> cases b
    all_goals
      have HQ := HR.out
      simp only [if_true, if_false, Bool.false_eq_true] at HQ
      subst HQ
      go_enter Tryd.func32, Tryd.ntmps32
      go_wp2_with (go_at_call 43; refine C.out.mono ?_; rintro e w1 ⟨rfl, hB1⟩; have HB := Lib.hid (HB.out.trans (hB1.mono HB.out.size)); have c0 := (hB1.cell (p := ⟨w.heap.size, 0, none⟩) HL.out).trans c0; have c2 := (hB1.cell (p := ⟨w.heap.size, 2, none⟩) HL.out).trans c2)
      go_ret
      exact ⟨rfl, HB.out⟩
  · rw [decide_eq_false hn] at E0
    cases a <;> cases d <;> cases b
    all_goals
      have HQ := HR.out
      simp only [if_true, if_false, Bool.false_eq_true, if_neg hn] at HQ
      subst HQ
      go_enter Tryd.func32, Tryd.ntmps32
      go_wp2_with (go_at_call 43; refine C.out.mono ?_; rintro e w1 ⟨rfl, hB1⟩; have HB := Lib.hid (HB.out.trans (hB1.mono HB.out.size)); have c0 := (hB1.cell (p := ⟨w.heap.size, 0, none⟩) HL.out).trans c0; have c2 := (hB1.cell (p := ⟨w.heap.size, 2, none⟩) HL.out).trans c2)
      go_ret
      exact ⟨rfl, HB.out⟩
def RetPr (r : ByteArray × Int) (w : World) (e : Ending) (w' : World) : Prop := e = .returned (.tuple #[.string r.1, .int .i64 r.2]) ∧ Below w.heap.size w w'
theorem printN_bad {l : List StN} {x : StN} (h : x ∈ l) (hx : okW x = false) : printN l = (⟨#[]⟩, 7) := by
  unfold printN; rw [if_pos (by rw [List.any_eq_true]; exact ⟨x, h, by rw [hx]; rfl⟩)]
theorem printN_ok {l : List StN} (h : ∀ x ∈ l, okW x = true) : printN l = if l.length = 0 then (⟨#[]⟩, 7) else if 64 < l.length then (⟨#[]⟩, 13) else (txtW (l.map wordN) l.length, 0) := by
  unfold printN
  rw [if_neg (by rw [List.any_eq_true]; rintro ⟨x, hx, hb⟩; rw [h x hx] at hb; cases hb)]
theorem wordN_len {x : StN} (h : x.nm.size ≤ 1048576) : (wordN x).size ≤ 1048576 := by
  unfold wordN
  split
  · decide
  · split
    · decide
    · exact h
theorem lens_le (ws : List ByteArray) (h : ∀ s ∈ ws, s.size ≤ 1048576) : Lib.lens (ws.map (·.data.toList)) ≤ ws.length * 1048576 := by
  induction ws with
  | nil => simp [Lib.lens]
  | cons s ws ih =>
    have h1 := ih (fun s hs => h s (List.mem_cons_of_mem _ hs))
    have h2 := h s (List.mem_cons_self ..)
    have h3 : s.data.toList.length = s.size := by rw [Array.length_toList]; rfl
    unfold Lib.lens at h1 ⊢
    simp only [List.map_cons, List.sum_cons, List.length_cons, h3] at h1 ⊢
    rw [Nat.add_mul]; omega
theorem join_le (ws : List ByteArray) (h : ∀ s ∈ ws, s.size ≤ 1048576) (hn : ws.length ≤ 1048576) : (Lib.join (ws.map (·.data.toList)) [47]).length ≤ 140737488355328 := by
  have h1 := lens_le ws h
  cases ws with
  | nil => simp [Lib.join_nil]
  | cons s ws =>
    rw [List.map_cons, Lib.join_length]
    rw [List.map_cons] at h1
    simp only [List.length_cons, List.length_nil, List.length_map] at h1 hn ⊢
    have := Nat.mul_le_mul_right 1048576 hn
    omega
theorem strRow_new (w : World) (x : Value) (t : TypeId) : ∀ j u, [x][j]? = some u → (w.alloc (.cells #[x] t)).cell? ((⟨w.heap.size, 0, none⟩ : Addr).add j) = some u := strCell_new w x t
theorem one_news (x : Value) (hx : x.oneCell' = true) : ∀ u ∈ [x], u.oneCell' = true := by intro u hu; simp at hu; subst hu; exact hx
theorem strCells_snocP (l : List ByteArray) (x : ByteArray) : strCells (l ++ [x]) = strCells l ++ [.string x] := by simp [strCells]
set_option maxRecDepth 100000 in
set_option maxHeartbeats 4000000 in
theorem print_any (A : Option Addr) (n cp : Nat) (l : List StN) (w : World) (hn : n ≤ 1048576) (hs : StsAt w A n l) (hnm : ∀ x ∈ l, x.nm.size ≤ 1048576) (hf : FormsAt w) (ht : Tabs w) :
    Calls Tryd.prog 16 #[.slice A n cp] w (RetPr (printN l) w) := by
  obtain ⟨j0, hj0, hy0, hy1, hy2⟩ := info_parts Tryd.infoStr
  obtain rfl := hs.1
  obtain ⟨r, hr⟩ : ∃ r, r = printN l := ⟨_, rfl⟩
  rw [← hr]
  have HR := Lib.hid hr
  have HS := Lib.hid hs
  have HNM := Lib.hid hnm
  have HF := Lib.hid hf
  have HT := Lib.hid ht
  clear hr hs hnm hf ht
  go_enter Tryd.func16, Tryd.ntmps16
  go_wp2
  go_loopw [4, 10] (fun o i wr => ∃ (k : Nat) (v : Value), v = o ∧ k ≤ l.length ∧ i = .int .i64 k ∧ Hid (∀ x ∈ l.take k, okW x = true) ∧ Hid (wr.ownsRow w.heap.size 9 1 v k (strCells ((l.take k).map wordN))) ∧ Hid (Below w.heap.size w wr)) (fun _ i _ => l.length - (intOf i).toNat)
  case atStart => exact ⟨0, _, rfl, by omega, rfl, (by show ∀ x ∈ [], _; simp), World.ownsRow_nil _ _ _ _, Below.refl _ _⟩
  case round =>
    obtain ⟨k, v, rfl, hk', rfl, HK, HO, HB⟩ := hrel
    by_cases hlt : k < l.length
    · obtain ⟨a, x, rfl, hx, hal, h0, h1, h2⟩ := (HS.out.below HB.out).2 k hlt
      have b0 : (0 : Int) ≤ (k : Int) := by omega
      have b1 : (k : Int) < (l.length : Int) := by omega
      obtain ⟨W, hW, hbW, w0, w1, w2, _⟩ := stBox wr x.any x.deep x.nm 35
      have HBW := Lib.hid (HB.out.trans (hbW.mono HB.out.size))
      have HOW := Lib.hid (ownRow_below HO.out hbW)
      have hxm := List.mem_of_getElem? hx
      have WD := word_any x W (Nat.le_trans (HNM.out x hxm) (by decide)) (HF.out.below HBW.out HF.out.size) (HT.out.below HBW.out HT.out.size)
      clear hbW
      cases hok : okW x with
      | false =>
        rw [wordP_no hok] at WD
        have WD := Lib.hid WD
        have HQ := Lib.hid (HR.out.trans (printN_bad hxm hok))
        clear hx hxm hok
        go_wp2_with fail
        refine WD.out.mono ?_
        rintro e w3 ⟨rfl, hB3⟩
        have HB3 := Lib.hid (HBW.out.trans (hB3.mono HBW.out.size))
        clear hB3 WD
        go_wp2
        go_ret2
        rw [HQ.out]
        exact ⟨rfl, HB3.out⟩
      | true =>
        rw [wordP_ok hok] at WD
        have WD := Lib.hid WD
        have hne := strEmpty_no (wordN_ne hok)
        have hta : l.take (k + 1) = l.take k ++ [x] := by rw [List.take_add_one, hx]; rfl
        have HK1 : Hid (∀ y ∈ l.take (k + 1), okW y = true) := by
          intro y hy
          rw [hta] at hy
          rcases List.mem_append.1 hy with hy | hy
          · exact HK.out y hy
          · simp at hy; subst hy; exact hok
        have HC : Hid (strCells ((l.take (k + 1)).map wordN) = strCells ((l.take k).map wordN) ++ [.string (wordN x)]) := by show _ = _; rw [hta, List.map_append, List.map_cons, List.map_nil, strCells_snocP]
        generalize wordN x = s at *
        generalize List.map wordN (List.take k l) = ys at *
        clear hx hxm hok hta
        go_wp2_with fail
        refine WD.out.mono ?_
        rintro e w3 ⟨rfl, hB3⟩
        have HB3 := Lib.hid (HBW.out.trans (hB3.mono HBW.out.size))
        have HO3 := Lib.hid (ownRow_below HOW.out hB3)
        have hz3 := HB3.out.size
        clear hB3 WD HOW HBW HO
        go_wp2_with (at_builtin; refine wpList_append_own_at _ rfl (.tmp 18) (.tmp 20) 23 rfl w.heap.size 9 j0 (.string ⟨#[]⟩) 1 16 Tryd.underlying23 hj0 hy0 hy1 hy2 rfl (by decide) _ _ _ rfl (HO3.out.alloc _) ⟨w3.heap.size, 0, none⟩ 1 1 [.string s] rfl rfl (strRow_new _ _ _) ?k2 ?k3 ?k4 ?k5 ?_)
        case k2 => exact one_news _ rfl
        case k3 => unfold maxLen; omega
        case k4 => omega
        case k5 => simp; omega
        intro o' w5 hown' hgrow _ hblk
        have HB5 := Lib.hid ((HB3.out.alloc hz3 _).grown hgrow (by simp; omega) (fun g hg => (HO3.out.lt g hg).1))
        rw [← HC.out] at hown'
        have HO5 := Lib.hid hown'
        clear hown' hgrow hblk
        go_wp2
        go_roundw
        case rel => exact ⟨k + 1, _, rfl, by omega, by go_num, HK1, HO5, HB5⟩
        case measure => simp [intOf]; omega
    · obtain rfl : k = l.length := by omega
      have hall := HK.out
      rw [List.take_length] at hall
      have HQ := Lib.hid (HR.out.trans (printN_ok hall))
      have hrow := HO.out
      rw [List.take_length] at hrow
      obtain ⟨A2, c2, hv⟩ := ownRow_shape hrow
      subst hv
      have HROW := Lib.hid hrow
      clear hall hrow HK
      by_cases hz : l.length = 0
      · have HQ2 : Hid (r = (⟨#[]⟩, 7)) := by show _ = _; rw [HQ.out, if_pos hz]
        have t0 : ((l.length : Int) == 0) = true := by simpa using hz
        go_wp2
        go_ret2
        rw [HQ2.out]
        exact ⟨rfl, HB.out⟩
      · have t0 : ((l.length : Int) == 0) = false := by simpa using hz
        by_cases h64 : 64 < l.length
        · have HQ2 : Hid (r = (⟨#[]⟩, 13)) := by show _ = _; rw [HQ.out, if_neg hz, if_pos h64]
          have t1 : (64 : Int) < (l.length : Int) := by omega
          go_wp2
          go_ret2
          rw [HQ2.out]
          exact ⟨rfl, HB.out⟩
        · have HQ2 : Hid (r = (txtW (l.map wordN) l.length, 0)) := by show _ = _; rw [HQ.out, if_neg hz, if_neg h64]
          have t1 : ¬ (64 : Int) < (l.length : Int) := by omega
          obtain ⟨g, hgA, hg1, hg2⟩ : ∃ g, A2 = some ⟨g, 0, none⟩ ∧ w.heap.size ≤ g ∧ g < wr.heap.size := by
            rcases HROW.out.2 with ⟨_, h2⟩ | ⟨g, cap, cur, hv, hg, hh, _⟩
            · exact absurd h2 hz
            · cases hv; exact ⟨g, rfl, hg, (HROW.out.lt g rfl).2⟩
          subst hgA
          have hwl : ∀ s ∈ l.map wordN, s.size ≤ 1048576 := by
            intro s hs
            obtain ⟨x, hx, rfl⟩ := List.mem_map.1 hs
            exact wordN_len (HNM.out x hx)
          have hcap := ownRow_cap HROW.out
          have J := Tryd.strings_Join g 0 c2 (l.map wordN) ⟨#[47]⟩ wr (by
            intro j s hj
            have h := HROW.out.cells (g := g) rfl j (.string s) (by unfold strCells; rw [List.getElem?_map, hj]; rfl)
            rw [addGQ] at h
            rw [Nat.zero_add]; exact h) hg2 (by rw [List.length_map]; omega) (by rw [List.length_map]; exact hcap.1) (join_le _ hwl (by rw [List.length_map]; omega))
          rw [show (⟨(Lib.join ((l.map wordN).map (·.data.toList)) (⟨#[47]⟩ : ByteArray).data.toList).toArray⟩ : ByteArray) = txtW (l.map wordN) l.length from (txtW_prog (l.map wordN)).trans (by rw [List.length_map]), List.length_map] at J
          have J := Lib.hid J
          clear hwl hcap hz h64 HROW HO HQ hg1 hg2
          go_wp2_with fail
          refine J.out.mono ?_
          rintro e w3 ⟨rfl, hB3⟩
          go_wp2
          go_ret2
          rw [HQ2.out]
          exact ⟨rfl, HB.out.trans (hB3.mono HB.out.size)⟩
end Go.Proofs.YtlifdmehejehjaaDoor
