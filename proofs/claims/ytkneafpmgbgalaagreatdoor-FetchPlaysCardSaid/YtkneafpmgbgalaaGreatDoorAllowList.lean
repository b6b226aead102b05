/- The contracts of slices.IndexFunc and ContainsFunc at texts, of allow.Find and Check, and of the reference's. Conditions: texts of at most 2^20 bytes; internal/bytealg.MaxLen holds an int. -/
import Derived.Test.YtkneafpmgbgalaaGreatDoorAllowRef
import Derived.Test.YtkneafpmgbgalaaGreatDoorTexts
import Derived.Shelf.Abstract
import Derived.Deep.RegionHeld3
namespace Go.Proofs.YtkneafpmgbgalaaGreatDoor
open Go.RowKit Go.Shelf Go.Proofs.YtkneafpmgbgalaaGreatDoor.CharsPlain Go.Proofs.YtkneafpmgbgalaaGreatDoor.UriPlain
set_option linter.unusedVariables false
set_option linter.unusedSimpArgs false
/-- The first place at which p holds. -/
def findG {α : Type} (p : α → Bool) (l : List α) : Int := match l.findIdx? p with
  | some k => k
  | none => -1
theorem findG_yes {α : Type} {p : α → Bool} {l : List α} {k : Nat} {x : α} (h : ∀ y ∈ l.take k, p y = false) (hx : l[k]? = some x) (hp : p x = true) : findG p l = k := by
  unfold findG
  have hk := (List.getElem?_eq_some_iff.1 hx)
  have hkl := hk.1
  have : l.findIdx? p = some k := by
    rw [List.findIdx?_eq_some_iff_getElem]
    refine ⟨hk.1, by rw [hk.2]; exact hp, fun j hj => ?_⟩
    have := h (l[j]'(by omega)) (by rw [List.mem_take_iff_getElem]; exact ⟨j, by omega, rfl⟩)
    simpa using this
  rw [this]
theorem findG_no {α : Type} {p : α → Bool} {l : List α} (h : ∀ y ∈ l, p y = false) : findG p l = -1 := by
  unfold findG
  have : l.findIdx? p = none := by rw [List.findIdx?_eq_none_iff]; exact h
  rw [this]
theorem findG_ge {α : Type} {p : α → Bool} (l : List α) : decide (0 ≤ findG p l) = l.any p := by
  unfold findG
  cases h : l.findIdx? p with
  | none =>
    rw [List.findIdx?_eq_none_iff] at h
    have : l.any p = false := by rw [List.any_eq_false]; intro x hx; rw [h x hx]; decide
    rw [this]; rfl
  | some k =>
    have h' := (List.findIdx?_eq_some_iff_getElem.1 h)
    have : l.any p = true := by rw [List.any_eq_true]; exact ⟨_, List.getElem_mem _, h'.2.1⟩
    rw [this]; simp
theorem findG_range {α : Type} {p : α → Bool} (l : List α) : -1 ≤ findG p l ∧ findG p l ≤ l.length := by
  unfold findG
  cases h : l.findIdx? p with
  | none => simp
  | some k => have h' := (List.findIdx?_eq_some_iff_getElem.1 h).1; simp; omega
theorem snocG {α : Type} {p : α → Bool} {l : List α} {k : Nat} {x : α} (h : ∀ y ∈ l.take k, p y = false) (hx : l[k]? = some x) (hp : p x = false) : ∀ y ∈ l.take (k + 1), p y = false := by
  intro y hy
  rw [List.take_add_one, hx] at hy
  rcases List.mem_append.1 hy with hy | hy
  · exact h y hy
  · obtain rfl : y = x := by simpa using hy
    exact hp
def TellI (i : Int) (w : World) (e : Ending) (w' : World) : Prop := e = .returned (.int .i64 i) ∧ Below w.heap.size w w'
set_option maxHeartbeats 2000000 in
theorem indexS_any (g : Nat) (cb : Array Value) (eg : ∀ args w, (callFunc g args).run Tryz.prog w = .ok (.enter g args) w) (p : ByteArray → Bool) (A : Option Addr) (n c : Nat) (l : List ByteArray) (w : World) (hl : TsAt w A n l) (hn : n ≤ 9223372036854775806)
    (hp : ∀ W x, x ∈ l → Below w.heap.size w W → Calls Tryz.prog g (#[.string x] ++ cb) W (BelB (p x) W)) :
    Calls Tryz.prog 42 #[.slice A n c, .func (.func g) #[] cb] w (TellI (findG p l) w) := by
  have L := Lib.hid hl
  have P := Lib.hid hp
  clear hl hp
  go_enter Tryz.func42, Tryz.ntmps42
  go_wp2
  go_loopw [5, 8] (fun v5 i wr => ∃ (k : Nat), k ≤ n ∧ i = .int .i64 k ∧ Hid (∀ y ∈ l.take k, p y = false) ∧ Hid (Below w.heap.size w wr)) (fun _ i _ => n - (intOf i).toNat)
  case atStart => exact ⟨0, by omega, rfl, by intro y hy; simp at hy, Below.refl _ _⟩
  case round =>
    obtain ⟨k, hk, rfl, HT, HB⟩ := hrel
    by_cases hlt : k < n
    · obtain ⟨a, x, rfl, hx, _, g0⟩ := (L.out.below HB.out).2 k hlt
      have b0 : (0 : Int) ≤ (k : Int) := by omega
      have b1 : (k : Int) < (n : Int) := by omega
      have C := P.out wr x (List.mem_of_getElem? hx) HB.out
      have X := Lib.hid hx
      clear hx
      cases hpx : p x with
      | true =>
        rw [hpx] at C
        have G := Lib.hid (findG_yes HT.out X.out hpx)
        clear hpx
        go_wp2_with fail
        refine C.mono ?_
        rintro e w' ⟨rfl, hb⟩
        go_wp2
        go_ret
        exact ⟨by rw [G.out]; rfl, HB.out.trans (hb.mono HB.out.size)⟩
      | false =>
        rw [hpx] at C
        have G := Lib.hid (snocG HT.out X.out hpx)
        clear hpx
        go_wp2_with fail
        refine C.mono ?_
        rintro e w' ⟨rfl, hb⟩
        go_wp2
        go_roundw
        case rel => exact ⟨k + 1, by omega, by go_num, G, HB.out.trans (hb.mono HB.out.size)⟩
        case measure => simp [intOf]; omega
    · obtain rfl : k = n := by omega
      have G := Lib.hid (findG_no (p := p) (l := l) (by have := HT.out; rwa [← L.out.1, List.take_length] at this))
      go_wp2
      go_ret
      exact ⟨by rw [G.out]; rfl, HB.out⟩
set_option maxHeartbeats 2000000 in
theorem containsS_any (g : Nat) (cb : Array Value) (eg : ∀ args w, (callFunc g args).run Tryz.prog w = .ok (.enter g args) w) (p : ByteArray → Bool) (A : Option Addr) (n c : Nat) (l : List ByteArray) (w : World) (hl : TsAt w A n l) (hn : n ≤ 9223372036854775806)
    (hp : ∀ W x, x ∈ l → Below w.heap.size w W → Calls Tryz.prog g (#[.string x] ++ cb) W (BelB (p x) W)) :
    Calls Tryz.prog 32 #[.slice A n c, .func (.func g) #[] cb] w (BelB (l.any p) w) := by
  have C := Lib.hid (indexS_any g cb eg p A n c l w hl hn hp)
  have hr := findG_range (p := p) l
  rw [hl.1] at hr
  have G := Lib.hid (findG_ge (p := p) l)
  clear hl hp
  generalize findG p l = v at *
  have h1 : (-9223372036854775808 : Int) ≤ v := by omega
  have h2 : v ≤ 9223372036854775807 := by omega
  go_enter Tryz.func32, Tryz.ntmps32
  go_wp2_with fail
  refine C.out.mono ?_
  rintro e w' ⟨rfl, hb⟩
  go_wp2
  go_ret
  exact ⟨by rw [← G.out]; rfl, hb⟩
def lB (l : List ByteArray) : List (List UInt8) := l.map (·.data.toList)
def findB (l : List ByteArray) (id : List UInt8) : Bool := decide (uriE id = 0) && l.any (fun p => meanB p.data.toList (normU id))
def findT (l : List ByteArray) (id : List UInt8) : List UInt8 := if findB l id then normU id else []
def checkE (l : List ByteArray) : Int := if 64 < l.length then 13 else if l.any (fun p => !decide (anormE p.data.toList = 0)) then 7 else 0
def Shorts (l : List ByteArray) : Prop := ∀ x ∈ l, x.size ≤ 1048576
set_option maxRecDepth 100000 in
set_option maxHeartbeats 2000000 in
theorem find1_any (p s : ByteArray) (b : Nat) (w : World) (m : Int) (hs : p.size ≤ 1048576) (hc : w.cell? ⟨b, 0, none⟩ = some (.string s)) (hm : w.cell? ⟨0, 0, none⟩ = some (.int .i64 m)) :
    Calls Tryz.prog 37 #[.string p, .pointer (some ⟨b, 0, none⟩)] w (BelB (meanB p.data.toList s.data.toList) w) := by
  have C2 := Lib.hid (fun w' hm' => means_any p w' m hs hm')
  have HM := Lib.hid hm
  have HR : Hid (meanB p.data.toList s.data.toList = hitB (anormE p.data.toList) (belP p.data.toList) (bS (normU (patS p.data.toList))).data.toList s.data.toList) := rfl
  have hb0 : b < w.heap.size := World.block_lt_of_cell? _ _ hc
  have HC := Lib.hid hc
  clear hm
  go_enter Tryz.func37, Tryz.ntmps37
  go_wp2_with fail
  go_region_held3 (fun W => W.cell? ⟨b, 0, none⟩ = some (.string s)) (first | exact hK | exact hc | go_keep)
    (first
    | (go_at_call 38; refine (C2.out _ (by simpa using HM.out)).mono ?_; rintro e w2 ⟨b1, b2, b3, rfl, c1, c2, c3, q1, q2, q3, hb2⟩; have HB2 : Hid (Below w.heap.size w w2) := (Below.refl w.heap.size w).drew.trans hb2; have hK : w2.cell? ⟨b, 0, none⟩ = some (.string s) := (HB2.out.cell (p := ⟨b, 0, none⟩) hb0).trans HC.out; have C3 := Lib.hid (means1_any s _ _ _ b1 b2 b3 w2 c1 c2 c3); clear hb2 c1 c2 c3)
    | (refine C3.out.mono ?_; rintro e w3 ⟨rfl, rfl⟩))
  go_wp2
  go_ret
  exact ⟨by rw [HR.out]; rfl, HB2.out⟩
def TellFind (t : ByteArray) (b : Bool) (w : World) (e : Ending) (w' : World) : Prop := e = .returned (.tuple #[.string t, .bool b]) ∧ Below w.heap.size w w'
set_option maxRecDepth 100000 in
set_option maxHeartbeats 2000000 in
theorem afind_any (A : Option Addr) (n c : Nat) (l : List ByteArray) (s : ByteArray) (w : World) (m : Int) (hl : TsAt w A n l) (hn : n ≤ 1048576) (hS : Shorts l) (hm : w.cell? ⟨0, 0, none⟩ = some (.int .i64 m)) :
    Calls Tryz.prog 25 #[.slice A n c, .string s] w (TellFind (bS (findT l s.data.toList)) (findB l s.data.toList) w) := by
  obtain ⟨T, hT⟩ : ∃ T, T = bS (normU s.data.toList) := ⟨_, rfl⟩
  obtain ⟨k, hk⟩ : ∃ k, k = uriE s.data.toList := ⟨_, rfl⟩
  have C1 := Lib.hid (norm_is2 s T k w m hm hT.symm hk.symm)
  have HM := Lib.hid hm
  have HL := Lib.hid hl
  have HS := Lib.hid hS
  have HF : Hid (findB l s.data.toList = (decide (k = 0) && l.any (fun p => meanB p.data.toList T.data.toList))) := by show _ = _; unfold findB; rw [hk, hT]; rfl
  have HT : Hid (bS (findT l s.data.toList) = if findB l s.data.toList then T else ⟨#[]⟩) := by show _ = _; unfold findT; rw [hT]; split <;> rfl
  clear hT hk hm hl hS
  generalize findB l s.data.toList = F at HF HT ⊢
  generalize bS (findT l s.data.toList) = X at HT ⊢
  by_cases hk0 : k = 0
  · subst hk0
    have EG := enters_of Tryz.func37 (by kernel_rfl) rfl
    have EG := Lib.hid EG
    go_enter Tryz.func25, Tryz.ntmps25
    go_wp2_with fail
    refine C1.out.mono ?_
    rintro e w1 ⟨rfl, hb1⟩
    have HB1 := Lib.hid hb1
    have HM1 := Lib.hid (maxlen_below HM.out hb1)
    have C2 := containsS_any 37 #[.pointer (some ⟨w1.heap.size, 0, none⟩)] EG.out (fun p => meanB p.data.toList T.data.toList) A n c l (w1.alloc (.cells #[.string T] 9))
      ((HL.out.below hb1).below ((Below.refl _ _).alloc (Nat.le_refl _) _)) (by omega)
      (fun W x hx hb => find1_any x T w1.heap.size W m (HS.out x hx) ((hb.cell (p := ⟨w1.heap.size, 0, none⟩) (by simp)).trans (by simp)) (maxlen_below (maxlen_below HM1.out ((Below.refl _ _).alloc (Nat.le_refl _) _)) hb))
    have C2 := Lib.hid C2
    clear hb1
    have HF1 : Hid (l.any (fun p => meanB p.data.toList T.data.toList) = F) := by show _ = _; rw [HF.out]; simp
    rw [HF1.out] at C2
    clear HF
    cases F with
    | true =>
      go_wp2_with fail
      refine C2.out.mono ?_
      rintro e w2 ⟨rfl, hb2⟩
      have HB2 := Lib.hid ((HB1.out.alloc HB1.out.size _).trans (hb2.mono ((HB1.out.alloc HB1.out.size _).size)))
      have c0 : w2.cell? ⟨w1.heap.size, 0, none⟩ = some (.string T) := (hb2.cell (p := ⟨w1.heap.size, 0, none⟩) (by simp)).trans (by simp)
      clear hb2
      go_wp2
      go_ret2
      rw [HT.out]
      exact ⟨rfl, HB2.out⟩
    | false =>
      go_wp2_with fail
      refine C2.out.mono ?_
      rintro e w2 ⟨rfl, hb2⟩
      have HB2 := Lib.hid ((HB1.out.alloc HB1.out.size _).trans (hb2.mono ((HB1.out.alloc HB1.out.size _).size)))
      clear hb2
      go_wp2
      go_ret2
      rw [HT.out]
      exact ⟨rfl, HB2.out⟩
  · have t1 : (k == 0) = false := by simpa using hk0
    have HF1 : Hid (F = false) := by show _ = _; rw [HF.out, decide_eq_false hk0]; rfl
    have HF2 := HF1.out
    subst HF2
    clear HF HF1
    go_enter Tryz.func25, Tryz.ntmps25
    go_wp2_with fail
    refine C1.out.mono ?_
    rintro e w1 ⟨rfl, hb1⟩
    go_wp2
    go_ret2
    rw [HT.out]
    exact ⟨rfl, hb1.alloc hb1.size _⟩
set_option maxRecDepth 100000 in
theorem check1_any (p : ByteArray) (w : World) (m : Int) (hs : p.size ≤ 1048576) (hm : w.cell? ⟨0, 0, none⟩ = some (.int .i64 m)) :
    Calls Tryz.prog 33 #[.string p] w (BelB (!decide (anormE p.data.toList = 0)) w) := by
  have C := Lib.hid (aright_any p w m hs hm)
  generalize decide (anormE p.data.toList = 0) = b at C ⊢
  clear hm
  go_enter Tryz.func33, Tryz.ntmps33
  go_wp2_with fail
  refine C.out.mono ?_
  rintro e w1 ⟨rfl, hb1⟩
  go_wp2
  go_ret
  exact ⟨rfl, hb1⟩
set_option maxRecDepth 100000 in
set_option maxHeartbeats 2000000 in
theorem acheck_any (A : Option Addr) (n c : Nat) (l : List ByteArray) (w : World) (m : Int) (hl : TsAt w A n l) (hn : n ≤ 1048576) (hS : Shorts l) (hm : w.cell? ⟨0, 0, none⟩ = some (.int .i64 m)) :
    Calls Tryz.prog 22 #[.slice A n c] w (TellI (checkE l) w) := by
  by_cases hb : 64 < n
  · have b1 : (64 : Int) < (n : Int) := by omega
    have HF : Hid (checkE l = 13) := by show _ = _; unfold checkE; rw [hl.1, if_pos hb]
    clear hl hm
    go_enter Tryz.func22, Tryz.ntmps22
    go_wp2
    go_ret
    rw [HF.out]
    exact ⟨rfl, Below.refl _ _⟩
  · have b1 : ¬ (64 : Int) < (n : Int) := by omega
    have HF : Hid (checkE l = if l.any (fun p => !decide (anormE p.data.toList = 0)) then 7 else 0) := by show _ = _; unfold checkE; rw [hl.1, if_neg hb]
    have C2 := containsS_any 33 #[] (enters_of Tryz.func33 (by kernel_rfl) rfl) (fun p => !decide (anormE p.data.toList = 0)) A n c l w hl (by omega) (fun W x hx hb => check1_any x W m (hS x hx) (maxlen_below hm hb))
    have C2 := Lib.hid C2
    generalize l.any (fun p => !decide (anormE p.data.toList = 0)) = F at C2 HF
    clear hl hm hS
    cases F with
    | true =>
      go_enter Tryz.func22, Tryz.ntmps22
      go_wp2_with fail
      refine C2.out.mono ?_
      rintro e w2 ⟨rfl, hb2⟩
      go_wp2
      go_ret
      rw [HF.out]
      exact ⟨rfl, hb2⟩
    | false =>
      go_enter Tryz.func22, Tryz.ntmps22
      go_wp2_with fail
      refine C2.out.mono ?_
      rintro e w2 ⟨rfl, hb2⟩
      go_wp2
      go_ret
      rw [HF.out]
      exact ⟨rfl, hb2⟩
end Go.Proofs.YtkneafpmgbgalaaGreatDoor
