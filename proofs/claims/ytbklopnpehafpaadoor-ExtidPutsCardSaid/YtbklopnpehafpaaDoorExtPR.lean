/- Merged texts: ExtParts, ExtRead. -/
import Derived.Test.YtbklopnpehafpaaDoorExtAS
import Derived.Test.YtbklopnpehafpaaDoorNameCut
import Derived.Lib.SmallJoins
/- The contracts of extid.blanks, parts.public, parts.system (whole). Conditions: at most 2^20 bytes; the tables of chars and of utf hold what the text gives them. -/
namespace Go.Proofs.YtbklopnpehafpaaDoor
open Go.RowKit Go.Proofs.YtbklopnpehafpaaDoor.UtfPlain Go.Proofs.YtbklopnpehafpaaDoor.NamePlain Go.Proofs.YtbklopnpehafpaaDoor.CharsPlain
set_option linter.unusedVariables false
set_option linter.unusedSimpArgs false
/-- Blanks, one at least: the place behind them, the error. -/
def blankE (xs : List Int) (i : Int) : Int := if blankZ xs i = i then 7 else 0
def blankP (xs : List Int) (i : Int) : Int := if blankZ xs i = i then 0 else blankZ xs i
/-- The system's part; the public one. -/
def sysN (xs : List Int) (i : Int) : List Int × Int × Int := if blankZ xs i = i then ([], 0, 7) else quoteN xs (blankZ xs i)
def pubP (xs : List Int) (i : Int) : List Int × Int × Int := if blankZ xs i = i then ([], 0, 7) else pubN xs (blankZ xs i)
def RetII (a b : Int) (w : World) (e : Ending) (w' : World) : Prop := e = .returned (.tuple #[.int .i64 a, .int .i64 b]) ∧ w' = w
set_option maxRecDepth 100000 in
set_option maxHeartbeats 2000000 in
theorem eblanks_any (A : Option Addr) (n cp : Nat) (i : Int) (xs : List Int) (w : World) (hn : n ≤ 140737488355328) (hb : BytesAt w A n xs) :
    Calls Tryd.prog 12 #[.slice A n cp, .int .i64 i] w (RetII (blankP xs i) (blankE xs i) w) := by
  have C := Lib.hid (blanks_any A n cp i xs w hn hb)
  unfold blankP blankE
  generalize blankZ xs i = z at C
  clear hb
  by_cases h : z = i
  · rw [if_pos h, if_pos h]
    have t : (z == i) = true := by simpa using h
    clear h
    go_enter Tryd.func12, Tryd.ntmps12
    go_wp2_with fail
    refine C.out.mono ?_
    rintro e w1 ⟨rfl, rfl⟩
    go_wp2
    go_ret2
    exact ⟨rfl, rfl⟩
  · rw [if_neg h, if_neg h]
    have t : (z == i) = false := by simpa using h
    clear h
    go_enter Tryd.func12, Tryd.ntmps12
    go_wp2_with fail
    refine C.out.mono ?_
    rintro e w1 ⟨rfl, rfl⟩
    go_wp2
    go_ret2
    exact ⟨rfl, rfl⟩
/-- A block that holds an identifier as it is read. -/
def PBlk (P : Nat) (A : Option Addr) (n cp : Nat) (i : Int) (pub sys : ByteArray) (whole : Bool) (w : World) : Prop :=
  w.heap[P]? = some (.cells #[.slice A n cp, .int .i64 i, .string pub, .string sys, .bool whole] 73 (0, 0))
theorem PBlk.lt {P : Nat} {A : Option Addr} {n cp : Nat} {i : Int} {pub sys : ByteArray} {whole : Bool} {w : World} (h : PBlk P A n cp i pub sys whole w) : P < w.heap.size := (Array.getElem?_eq_some_iff.1 h).1
theorem PBlk.below {P : Nat} {A : Option Addr} {n cp : Nat} {i : Int} {pub sys : ByteArray} {whole : Bool} {w w' : World} (h : PBlk P A n cp i pub sys whole w) (hb : Below w.heap.size w w') : PBlk P A n cp i pub sys whole w' := by
  have hl := h.lt
  unfold PBlk at *
  rw [hb.block P hl]; exact h
theorem PBlk.cells {P : Nat} {A : Option Addr} {n cp : Nat} {i : Int} {pub sys : ByteArray} {whole : Bool} {w : World} (h : PBlk P A n cp i pub sys whole w) :
    w.cell? ⟨P, 0, none⟩ = some (.slice A n cp) ∧ w.cell? ⟨P, 1, none⟩ = some (.int .i64 i) ∧ w.cell? ⟨P, 2, none⟩ = some (.string pub) ∧ w.cell? ⟨P, 3, none⟩ = some (.string sys) ∧ w.cell? ⟨P, 4, none⟩ = some (.bool whole) ∧
    w.frozen? ⟨P, 1, none⟩ = false ∧ w.frozen? ⟨P, 2, none⟩ = false ∧ w.frozen? ⟨P, 3, none⟩ = false ∧ w.frozen? ⟨P, 4, none⟩ = false := by
  unfold PBlk at h
  exact ⟨by rw [Lib.cell_of_heap h]; rfl, by rw [Lib.cell_of_heap h]; rfl, by rw [Lib.cell_of_heap h]; rfl, by rw [Lib.cell_of_heap h]; rfl, by rw [Lib.cell_of_heap h]; rfl, Lib.frozen_of_heap h 1, Lib.frozen_of_heap h 2, Lib.frozen_of_heap h 3, Lib.frozen_of_heap h 4⟩
theorem PBlk.set2 {P : Nat} {A : Option Addr} {n cp : Nat} {i : Int} {pub sys : ByteArray} {whole : Bool} {w : World} (h : PBlk P A n cp i pub sys whole w) (s : ByteArray) : PBlk P A n cp i s sys whole (w.setCell ⟨P, 2, none⟩ (.string s)) := Go.Joins.block_setCell h _
theorem PBlk.set3 {P : Nat} {A : Option Addr} {n cp : Nat} {i : Int} {pub sys : ByteArray} {whole : Bool} {w : World} (h : PBlk P A n cp i pub sys whole w) (s : ByteArray) : PBlk P A n cp i pub s whole (w.setCell ⟨P, 3, none⟩ (.string s)) := Go.Joins.block_setCell h _
theorem PBlk.set1 {P : Nat} {A : Option Addr} {n cp : Nat} {i : Int} {pub sys : ByteArray} {whole : Bool} {w : World} (h : PBlk P A n cp i pub sys whole w) (j : Int) : PBlk P A n cp j pub sys whole (w.setCell ⟨P, 1, none⟩ (.int .i64 j)) := Go.Joins.block_setCell h _
theorem PBlk.set4 {P : Nat} {A : Option Addr} {n cp : Nat} {i : Int} {pub sys : ByteArray} {whole : Bool} {w : World} (h : PBlk P A n cp i pub sys whole w) (b : Bool) : PBlk P A n cp i pub sys b (w.setCell ⟨P, 4, none⟩ (.bool b)) := Go.Joins.block_setCell h _
def SysTold (r : List Int × Int × Int) (P : Nat) (A : Option Addr) (n cp : Nat) (pub : ByteArray) (w0 : World) (e : Ending) (w' : World) : Prop :=
  e = .returned (.int .i64 r.2.2) ∧ Below w0.heap.size w0 w' ∧ (r.2.2 = 0 → PBlk P A n cp r.2.1 pub (strOfNums r.1) true w')
def PubTold (r : List Int × Int × Int) (P : Nat) (A : Option Addr) (n cp : Nat) (sys : ByteArray) (whole : Bool) (w0 : World) (e : Ending) (w' : World) : Prop :=
  e = .returned (.int .i64 r.2.2) ∧ Below w0.heap.size w0 w' ∧ (r.2.2 = 0 → PBlk P A n cp r.2.1 (strOfNums r.1) sys whole w')
set_option maxRecDepth 100000 in
set_option maxHeartbeats 4000000 in
theorem system_any (P : Nat) (A : Option Addr) (n cp : Nat) (i : Int) (xs : List Int) (pub sys : ByteArray) (w0 w : World) (hn : n ≤ 1048576) (hcp : n ≤ cp) (hcp2 : cp ≤ 9223372036854775807) (hb : BytesAt w0 A n xs)
    (h0 : Below w0.heap.size w0 w) (hP : w0.heap.size ≤ P) (hp : PBlk P A n cp i pub sys true w) :
    Calls Tryd.prog 41 #[.pointer (some ⟨P, 0, none⟩)] w (SysTold (sysN xs i) P A n cp pub w0) := by
  have hb1 := hb.below h0
  have CB := fun d => eblanks_any A n cp i xs (w.drewN d) (by omega) (hb1.drewN d)
  have CQ := fun d => lquoted_any A n cp (blankZ xs i) xs (w.drewN d) (by omega) hcp hcp2 (hb1.drewN d)
  obtain ⟨c0, c1, c2, c3, c4, f1, f2, f3, f4⟩ := hp.cells
  obtain ⟨r, hr⟩ : ∃ r, r = sysN xs i := ⟨_, rfl⟩
  rw [← hr]
  unfold sysN at hr
  unfold blankP blankE at CB
  have H0 := Lib.hid h0
  have HP := Lib.hid hp
  by_cases hz : blankZ xs i = i
  · rw [if_pos hz] at hr
    rw [if_pos hz, if_pos hz] at CB
    have CB := Lib.hid CB
    clear hz hb hb1 CQ h0 hp
    subst hr
    go_enter Tryd.func41, Tryd.ntmps41
    go_wp2
    go_quiet ((go_at_call 12; exact Calls.quiet_of_same (CB.out _)))
    go_wp2
    go_ret
    exact ⟨rfl, belowN_drewN _ _ _ |> H0.out.trans, fun h => by cases h⟩
  · rw [if_neg hz] at hr
    rw [if_neg hz, if_neg hz] at CB
    generalize blankZ xs i = z at *
    rw [← hr] at CQ
    have CB := Lib.hid CB
    have CQ := Lib.hid CQ
    clear hz hb hb1 h0 hp hr
    go_enter Tryd.func41, Tryd.ntmps41
    go_wp2
    go_quiet ((go_at_call 12; exact Calls.quiet_of_same (CB.out _)))
    go_wp2_with fail
    refine (CQ.out _).mono ?_
    rintro e w1 ⟨rfl, hB⟩
    have hp1 := (show PBlk P A n cp i pub sys true (w.drewN nq) from HP.out).below hB
    obtain ⟨c0', c1', c2', c3', c4', f1', f2', f3', f4'⟩ := hp1.cells
    have H1 := Lib.hid hp1
    have HB := Lib.hid ((H0.out.trans (belowN_drewN _ _ nq)).trans (hB.mono (H0.out.trans (belowN_drewN _ _ nq)).size))
    clear hB hp1
    go_wp2
    go_ret
    exact ⟨rfl, (HB.out.setCell hP _).setCell hP _, fun h => (H1.out.set3 _).set1 _⟩
set_option maxRecDepth 100000 in
set_option maxHeartbeats 4000000 in
theorem public_any (P : Nat) (A : Option Addr) (n cp : Nat) (i : Int) (xs : List Int) (pub sys : ByteArray) (whole : Bool) (w0 w : World) (hn : n ≤ 1048576) (hcp : n ≤ cp) (hcp2 : cp ≤ 9223372036854775807) (hb : BytesAt w0 A n xs) (hf : FormsAt w0) (ht : Tabs w0)
    (h0 : Below w0.heap.size w0 w) (hP : w0.heap.size ≤ P) (hp : PBlk P A n cp i pub sys whole w) :
    Calls Tryd.prog 40 #[.pointer (some ⟨P, 0, none⟩)] w (PubTold (pubP xs i) P A n cp sys whole w0) := by
  have hb1 := hb.below h0
  have CB := fun d => eblanks_any A n cp i xs (w.drewN d) (by omega) (hb1.drewN d)
  have CQ := fun d => lpublic_any A n cp (blankZ xs i) xs (w.drewN d) hn hcp hcp2 (hb1.drewN d) (hf.below (h0.trans (belowN_drewN _ _ d)) hf.size) (ht.below (h0.trans (belowN_drewN _ _ d)) ht.size)
  obtain ⟨c0, c1, c2, c3, c4, f1, f2, f3, f4⟩ := hp.cells
  obtain ⟨r, hr⟩ : ∃ r, r = pubP xs i := ⟨_, rfl⟩
  rw [← hr]
  unfold pubP at hr
  unfold blankP blankE at CB
  have H0 := Lib.hid h0
  have HP := Lib.hid hp
  by_cases hz : blankZ xs i = i
  · rw [if_pos hz] at hr
    rw [if_pos hz, if_pos hz] at CB
    have CB := Lib.hid CB
    clear hz hb hb1 CQ h0 hp hf ht
    subst hr
    go_enter Tryd.func40, Tryd.ntmps40
    go_wp2
    go_quiet ((go_at_call 12; exact Calls.quiet_of_same (CB.out _)))
    go_wp2
    go_ret
    exact ⟨rfl, belowN_drewN _ _ _ |> H0.out.trans, fun h => by cases h⟩
  · rw [if_neg hz] at hr
    rw [if_neg hz, if_neg hz] at CB
    generalize blankZ xs i = z at *
    rw [← hr] at CQ
    have CB := Lib.hid CB
    have CQ := Lib.hid CQ
    clear hz hb hb1 h0 hp hr hf ht
    go_enter Tryd.func40, Tryd.ntmps40
    go_wp2
    go_quiet ((go_at_call 12; exact Calls.quiet_of_same (CB.out _)))
    go_wp2_with fail
    refine (CQ.out _).mono ?_
    rintro e w1 ⟨rfl, hB⟩
    have hp1 := (show PBlk P A n cp i pub sys whole (w.drewN nq) from HP.out).below hB
    obtain ⟨c0', c1', c2', c3', c4', f1', f2', f3', f4'⟩ := hp1.cells
    have H1 := Lib.hid hp1
    have HB := Lib.hid ((H0.out.trans (belowN_drewN _ _ nq)).trans (hB.mono (H0.out.trans (belowN_drewN _ _ nq)).size))
    clear hB hp1
    go_wp2
    go_ret
    exact ⟨rfl, (HB.out.setCell hP _).setCell hP _, fun h => (H1.out.set2 _).set1 _⟩
end Go.Proofs.YtbklopnpehafpaaDoor
/- The contracts of extid.read (whole) and extid.Ext. Conditions: at most 2^20 bytes; the tables of chars and of utf hold what the text gives them. -/
namespace Go.Proofs.YtbklopnpehafpaaDoor
open Go.RowKit Go.Proofs.YtbklopnpehafpaaDoor.UtfPlain Go.Proofs.YtbklopnpehafpaaDoor.NamePlain Go.Proofs.YtbklopnpehafpaaDoor.CharsPlain
set_option linter.unusedVariables false
set_option linter.unusedSimpArgs false
/-- The end of an identifier: what a system's part adds to a public one. -/
def withSys (pub : List Int) (s : List Int × Int × Int) : List Int × List Int × Int × Int := if s.2.2 = 0 then (pub, s.1, s.2.1, 0) else ([], [], 0, s.2.2)
/-- An external identifier at a place: its parts, the place behind, the error. -/
def extN (xs : List Int) (at_ : Int) : List Int × List Int × Int × Int :=
  if at_ < 0 ∨ (xs.length : Int) < at_ then ([], [], 0, 3)
  else if sortN (xs.drop at_.toNat) = 1 then
    (if (pubP xs (at_ + 6)).2.2 = 0 then withSys (pubP xs (at_ + 6)).1 (sysN xs (pubP xs (at_ + 6)).2.1) else ([], [], 0, (pubP xs (at_ + 6)).2.2))
  else if sortN (xs.drop at_.toNat) = 2 then withSys [] (sysN xs (at_ + 6))
  else ([], [], 0, 7)
theorem sortN_cases (ys : List Int) : sortN ys = 1 ∨ sortN ys = 2 ∨ sortN ys = 0 := by
  unfold sortN; split
  · exact .inl rfl
  · split
    · exact .inr (.inl rfl)
    · exact .inr (.inr rfl)
def TellExt (r : List Int × List Int × Int × Int) (w : World) (e : Ending) (w' : World) : Prop :=
  e = .returned (.tuple #[.agg #[.string (strOfNums r.1), .string (strOfNums r.2.1)], .int .i64 r.2.2.1, .int .i64 r.2.2.2]) ∧ Below w.heap.size w w'
/-- A block that holds an identifier. -/
def IdBlk (B : Nat) (a b : ByteArray) (w : World) : Prop := w.heap[B]? = some (.cells #[.string a, .string b] 25 (0, 0))
theorem IdBlk.below {B : Nat} {a b : ByteArray} {w w' : World} (h : IdBlk B a b w) (hb : Below w.heap.size w w') : IdBlk B a b w' := by
  have hl : B < w.heap.size := (Array.getElem?_eq_some_iff.1 h).1
  unfold IdBlk at *
  rw [hb.block B hl]; exact h
theorem IdBlk.cells {B : Nat} {a b : ByteArray} {w : World} (h : IdBlk B a b w) : w.cell? ⟨B, 0, none⟩ = some (.string a) ∧ w.cell? ⟨B, 1, none⟩ = some (.string b) ∧ w.frozen? ⟨B, 0, none⟩ = false ∧ w.frozen? ⟨B, 1, none⟩ = false := by
  unfold IdBlk at h
  exact ⟨by rw [Lib.cell_of_heap h]; rfl, by rw [Lib.cell_of_heap h]; rfl, Lib.frozen_of_heap h 0, Lib.frozen_of_heap h 1⟩
theorem bytesAt_drop {w : World} {A : Option Addr} {n i : Nat} {xs : List Int} (hb : BytesAt w A n xs) (hi : i ≤ n) : BytesAt w (Option.map (fun x => x.add i) A) (n - i) (xs.drop i) := by
  refine ⟨by rw [List.length_drop, hb.1], fun k hk => ?_⟩
  obtain ⟨a, x, rfl, hx, h0, h1, hl, hc⟩ := hb.2 (i + k) (by omega)
  exact ⟨a.add i, x, rfl, by rw [List.getElem?_drop]; exact hx, h0, h1, by rw [addBlock]; exact hl, by rw [addAdd]; exact hc⟩
set_option maxRecDepth 100000 in
set_option maxHeartbeats 1000000 in
theorem read_in (A : Option Addr) (n cp i : Nat) (xs : List Int) (w : World) (hn : n ≤ 1048576) (hcp : n ≤ cp) (hcp2 : cp ≤ 9223372036854775807) (hi : i ≤ n) (hb : BytesAt w A n xs) (hf : FormsAt w) (ht : Tabs w) :
    Calls Tryd.prog 24 #[.slice A n cp, .int .i64 i, .bool true] w (TellExt (extN xs i) w) := by
  have b0 : (0 : Int) ≤ (i : Int) := by omega
  have b1 : ¬ (n : Int) < (i : Int) := by omega
  have b2 : i ≤ cp := by omega
  obtain ⟨W, hW⟩ : ∃ W, W = w.alloc (.cells #[.string ⟨#[]⟩, .string ⟨#[]⟩] 25) := ⟨_, rfl⟩
  obtain ⟨V, hV⟩ : ∃ V, V = W.alloc (.cells #[.slice A n cp, .int .i64 ((i : Int) + 6), .string ⟨#[]⟩, .string ⟨#[]⟩, .bool true] 73) := ⟨_, rfl⟩
  have hBW : Below w.heap.size w W := by rw [hW]; exact (Below.refl _ _).alloc (Nat.le_refl _) _
  have hBV : Below w.heap.size w V := by rw [hV]; exact hBW.alloc hBW.size _
  have hWz : W.heap.size = w.heap.size + 1 := by rw [hW, World.alloc]; simp
  have hPB : PBlk (w.heap.size + 1) A n cp ((i : Int) + 6) ⟨#[]⟩ ⟨#[]⟩ true V := by
    show V.heap[w.heap.size + 1]? = _
    rw [← hWz, hV, World.alloc]; simp
  have hIB : IdBlk w.heap.size ⟨#[]⟩ ⟨#[]⟩ W := by
    show W.heap[w.heap.size]? = _
    rw [hW, World.alloc]; simp
  have hWV : Below W.heap.size W V := by rw [hV]; exact (Below.refl _ _).alloc (Nat.le_refl _) _
  have SC : ∀ p c', n - i ≤ c' → BytesAt V p (n - i) (xs.drop i) → Calls Tryd.prog 39 #[.slice p (n - i) c'] V (BelI (sortN (xs.drop i)) V) := fun p c' h1 h2 => sort_any p (n - i) c' _ V h1 h2
  have hD := bytesAt_drop (hb.below hBV) hi
  have hE : cp = i → BytesAt V A (n - i) (xs.drop i) := fun h => by
    obtain rfl : n = i := by omega
    refine ⟨by rw [List.length_drop, hb.1], fun k hk => by omega⟩
  obtain ⟨r, hr⟩ : ∃ r, r = extN xs i := ⟨_, rfl⟩
  have PC := fun W1 h0 h1 => public_any (w.heap.size + 1) A n cp ((i : Int) + 6) xs ⟨#[]⟩ ⟨#[]⟩ true W W1 hn hcp hcp2 (hb.below hBW) (hf.below hBW hf.size) (ht.below hBW ht.size) h0 (by omega) h1
  have YC := fun j pub W1 h0 h1 => system_any (w.heap.size + 1) A n cp j xs pub ⟨#[]⟩ W W1 hn hcp hcp2 (hb.below hBW) h0 (by omega) h1
  rw [← hr]
  unfold extN at hr
  rw [if_neg (by rw [hb.1]; omega), Int.toNat_natCast] at hr
  have hs := sortN_cases (xs.drop i)
  generalize sortN (xs.drop i) = s at SC hr hs
  generalize pubP xs ((i : Int) + 6) = p at PC hr
  have HWV := Lib.hid hWV
  have HBW := Lib.hid hBW
  have HWY := Lib.hid (show W.heap.size ≤ w.heap.size + 1 by omega)
  have HWZ := Lib.hid (show w.heap.size ≤ W.heap.size by omega)
  have HPB := Lib.hid hPB
  have HIB := Lib.hid hIB
  have HVW : Hid (V = (w.alloc (.cells #[.string ⟨#[]⟩, .string ⟨#[]⟩] 25)).alloc (.cells #[.slice A n cp, .int .i64 ((i : Int) + 6), .string ⟨#[]⟩, .string ⟨#[]⟩, .bool true] 73)) := by show _ = _; rw [hV, hW]
  have KC : (cp = i ∧ Hid (Calls Tryd.prog 39 #[.slice A 0 0] V (BelI s V))) ∨ (¬ cp = i ∧ Hid (Calls Tryd.prog 39 #[.slice (Option.map (fun x => x.add i) A) (n - i) (cp - i)] V (BelI s V))) := by
    by_cases hc : cp = i
    · have h1 := SC A (n - i) (Nat.le_refl _) (hE hc)
      rw [show n - i = 0 by omega] at h1
      exact .inl ⟨hc, h1⟩
    · exact .inr ⟨hc, SC _ _ (by omega) hD⟩
  have HR := Lib.hid hr
  have PC := Lib.hid PC
  have YC := Lib.hid YC
  clear hb hf ht hBW hBV hPB hIB SC hD hE hr hW hV hWz hWV
  rcases hs with rfl | rfl | rfl
  · obtain ⟨p1, p2, p3⟩ := p
    by_cases hp3 : p3 = 0
    · subst hp3
      have HY : Hid (r = withSys p1 (sysN xs p2)) := by show _ = _; rw [HR.out]; rfl
      have YC := Lib.hid (fun W1 => YC.out p2 (strOfNums p1) W1)
      generalize sysN xs p2 = y at YC HY
      obtain ⟨y1, y2, y3⟩ := y
      by_cases hy3 : y3 = 0
      · subst hy3
        have HQ : Hid (r = (p1, y1, y2, 0)) := by show _ = _; rw [HY.out]; rfl
        rcases KC with ⟨hc, KC⟩ | ⟨hc, KC⟩
        all_goals
          (try subst hc)
          go_enter Tryd.func24, Tryd.ntmps24
          go_wp2_with fail
          rw [← HVW.out]
          refine KC.out.mono ?_
          rintro e w1 ⟨rfl, hB⟩
          have HP1 := Lib.hid (HPB.out.below hB)
          have HB1 := Lib.hid (HWV.out.trans (hB.mono HWV.out.size))
          clear hB
          go_wp2_with fail
          refine (PC.out w1 HB1.out HP1.out).mono ?_
          rintro e w2 ⟨rfl, hB2, hP2⟩
          have HP2 := Lib.hid (hP2 rfl)
          have HB2 := Lib.hid hB2
          clear hB2 hP2
          go_wp2_with fail
          refine (YC.out w2 HB2.out HP2.out).mono ?_
          rintro e w3 ⟨rfl, hB3, hP3⟩
          have HP3 := Lib.hid (hP3 rfl)
          have HB3 := Lib.hid hB3
          clear hB3 hP3
          obtain ⟨i0, i1, j0, j1⟩ := (HIB.out.below HB3.out).cells
          have HZ := Lib.hid (HBW.out.trans (HB3.out.mono HWZ.out))
          obtain ⟨c0, c1, c2, c3, c4, f1, f2, f3, f4⟩ := HP3.out.cells
          go_wp2
          go_region
          all_goals
            go_wp2
            refine bodyPost_ret (v := .tuple #[.agg #[.string (strOfNums p1), .string (strOfNums y1)], .int .i64 y2, .int .i64 0]) (by simp [results, Tryd.results24, go_sem, i0, i1, j0, j1]) rfl ?_
            rw [HQ.out]
            exact ⟨rfl, ((HZ.out.setCell (Nat.le_refl _) _).setCell (Nat.le_refl _) _).drew⟩
      · have HQ : Hid (r = ([], [], 0, y3)) := by show _ = _; rw [HY.out]; unfold withSys; rw [if_neg hy3]
        have t1 : (y3 == 0) = false := by simpa using hy3
        have t2 : (y3 != 0) = true := by simpa using hy3
        clear hy3
        rcases KC with ⟨hc, KC⟩ | ⟨hc, KC⟩
        all_goals
          (try subst hc)
          go_enter Tryd.func24, Tryd.ntmps24
          go_wp2_with fail
          rw [← HVW.out]
          refine KC.out.mono ?_
          rintro e w1 ⟨rfl, hB⟩
          have HP1 := Lib.hid (HPB.out.below hB)
          have HB1 := Lib.hid (HWV.out.trans (hB.mono HWV.out.size))
          clear hB
          go_wp2_with fail
          refine (PC.out w1 HB1.out HP1.out).mono ?_
          rintro e w2 ⟨rfl, hB2, hP2⟩
          have HP2 := Lib.hid (hP2 rfl)
          have HB2 := Lib.hid hB2
          clear hB2 hP2
          go_wp2_with fail
          refine (YC.out w2 HB2.out HP2.out).mono ?_
          rintro e w3 ⟨rfl, hB3, -⟩
          have HB3 := Lib.hid hB3
          clear hB3
          obtain ⟨i0, i1, j0, j1⟩ := (HIB.out.below HB3.out).cells
          have HZ := Lib.hid (HBW.out.trans (HB3.out.mono HWZ.out))
          go_wp2
          refine bodyPost_ret (v := .tuple #[.agg #[.string ⟨#[]⟩, .string ⟨#[]⟩], .int .i64 0, .int .i64 y3]) (by simp [results, Tryd.results24, go_sem, i0, i1, j0, j1]) rfl ?_
          rw [HQ.out]
          exact ⟨rfl, (HZ.out.setCell (Nat.le_refl _) _).setCell (Nat.le_refl _) _⟩
    · have HQ : Hid (r = ([], [], 0, p3)) := by show _ = _; rw [HR.out]; show (if p3 = 0 then _ else _) = _; rw [if_neg hp3]
      have t1 : (p3 == 0) = false := by simpa using hp3
      have t2 : (p3 != 0) = true := by simpa using hp3
      clear hp3
      rcases KC with ⟨hc, KC⟩ | ⟨hc, KC⟩
      all_goals
        (try subst hc)
        go_enter Tryd.func24, Tryd.ntmps24
        go_wp2_with fail
        rw [← HVW.out]
        refine KC.out.mono ?_
        rintro e w1 ⟨rfl, hB⟩
        have HP1 := Lib.hid (HPB.out.below hB)
        have HB1 := Lib.hid (HWV.out.trans (hB.mono HWV.out.size))
        clear hB
        go_wp2_with fail
        refine (PC.out w1 HB1.out HP1.out).mono ?_
        rintro e w2 ⟨rfl, hB2, -⟩
        have HB2 := Lib.hid hB2
        clear hB2
        obtain ⟨i0, i1, j0, j1⟩ := (HIB.out.below HB2.out).cells
        have HZ := Lib.hid (HBW.out.trans (HB2.out.mono HWZ.out))
        go_wp2
        refine bodyPost_ret (v := .tuple #[.agg #[.string ⟨#[]⟩, .string ⟨#[]⟩], .int .i64 0, .int .i64 p3]) (by simp [results, Tryd.results24, go_sem, i0, i1, j0, j1]) rfl ?_
        rw [HQ.out]
        exact ⟨rfl, (HZ.out.setCell (Nat.le_refl _) _).setCell (Nat.le_refl _) _⟩
  · have HY : Hid (r = withSys [] (sysN xs ((i : Int) + 6))) := by show _ = _; rw [HR.out]; rfl
    have YC := Lib.hid (fun W1 => YC.out ((i : Int) + 6) ⟨#[]⟩ W1)
    generalize sysN xs ((i : Int) + 6) = y at YC HY
    obtain ⟨y1, y2, y3⟩ := y
    by_cases hy3 : y3 = 0
    · subst hy3
      have HQ : Hid (r = ([], y1, y2, 0)) := by show _ = _; rw [HY.out]; rfl
      rcases KC with ⟨hc, KC⟩ | ⟨hc, KC⟩
      all_goals
        (try subst hc)
        go_enter Tryd.func24, Tryd.ntmps24
        go_wp2_with fail
        rw [← HVW.out]
        refine KC.out.mono ?_
        rintro e w1 ⟨rfl, hB⟩
        have HP1 := Lib.hid (HPB.out.below hB)
        have HB1 := Lib.hid (HWV.out.trans (hB.mono HWV.out.size))
        clear hB
        obtain ⟨c0, c1, c2, c3, c4, f1, f2, f3, f4⟩ := HP1.out.cells
        go_wp2_with fail
        refine (YC.out _ (HB1.out.setCell HWY.out _) (HP1.out.set4 _)).mono ?_
        rintro e w3 ⟨rfl, hB3, hP3⟩
        have HP3 := Lib.hid (hP3 rfl)
        have HB3 := Lib.hid hB3
        clear hB3 hP3 c0 c1 c2 c3 c4 f1 f2 f3 f4
        obtain ⟨i0, i1, j0, j1⟩ := (HIB.out.below HB3.out).cells
        have HZ := Lib.hid (HBW.out.trans (HB3.out.mono HWZ.out))
        obtain ⟨c0, c1, c2, c3, c4, f1, f2, f3, f4⟩ := HP3.out.cells
        go_wp2
        go_region
        all_goals
          go_wp2
          refine bodyPost_ret (v := .tuple #[.agg #[.string ⟨#[]⟩, .string (strOfNums y1)], .int .i64 y2, .int .i64 0]) (by simp [results, Tryd.results24, go_sem, i0, i1, j0, j1]) rfl ?_
          rw [HQ.out]
          exact ⟨rfl, ((HZ.out.setCell (Nat.le_refl _) _).setCell (Nat.le_refl _) _).drew⟩
    · have HQ : Hid (r = ([], [], 0, y3)) := by show _ = _; rw [HY.out]; unfold withSys; rw [if_neg hy3]
      have t1 : (y3 == 0) = false := by simpa using hy3
      have t2 : (y3 != 0) = true := by simpa using hy3
      clear hy3
      rcases KC with ⟨hc, KC⟩ | ⟨hc, KC⟩
      all_goals
        (try subst hc)
        go_enter Tryd.func24, Tryd.ntmps24
        go_wp2_with fail
        rw [← HVW.out]
        refine KC.out.mono ?_
        rintro e w1 ⟨rfl, hB⟩
        have HP1 := Lib.hid (HPB.out.below hB)
        have HB1 := Lib.hid (HWV.out.trans (hB.mono HWV.out.size))
        clear hB
        obtain ⟨c0, c1, c2, c3, c4, f1, f2, f3, f4⟩ := HP1.out.cells
        go_wp2_with fail
        refine (YC.out _ (HB1.out.setCell HWY.out _) (HP1.out.set4 _)).mono ?_
        rintro e w3 ⟨rfl, hB3, -⟩
        have HB3 := Lib.hid hB3
        clear hB3 c0 c1 c2 c3 c4 f1 f2 f3 f4
        obtain ⟨i0, i1, j0, j1⟩ := (HIB.out.below HB3.out).cells
        have HZ := Lib.hid (HBW.out.trans (HB3.out.mono HWZ.out))
        go_wp2
        refine bodyPost_ret (v := .tuple #[.agg #[.string ⟨#[]⟩, .string ⟨#[]⟩], .int .i64 0, .int .i64 y3]) (by simp [results, Tryd.results24, go_sem, i0, i1, j0, j1]) rfl ?_
        rw [HQ.out]
        exact ⟨rfl, (HZ.out.setCell (Nat.le_refl _) _).setCell (Nat.le_refl _) _⟩
  · have HQ : Hid (r = ([], [], 0, 7)) := by show _ = _; rw [HR.out]; rfl
    rcases KC with ⟨hc, KC⟩ | ⟨hc, KC⟩
    all_goals
      (try subst hc)
      go_enter Tryd.func24, Tryd.ntmps24
      go_wp2_with fail
      rw [← HVW.out]
      refine KC.out.mono ?_
      rintro e w1 ⟨rfl, hB⟩
      have HP1 := Lib.hid (HPB.out.below hB)
      have HB1 := Lib.hid (HWV.out.trans (hB.mono HWV.out.size))
      clear hB
      obtain ⟨i0, i1, j0, j1⟩ := (HIB.out.below HB1.out).cells
      have HZ := Lib.hid (HBW.out.trans (HB1.out.mono HWZ.out))
      go_wp2
      refine bodyPost_ret (v := .tuple #[.agg #[.string ⟨#[]⟩, .string ⟨#[]⟩], .int .i64 0, .int .i64 7]) (by simp [results, Tryd.results24, go_sem, i0, i1, j0, j1]) rfl ?_
      rw [HQ.out]
      exact ⟨rfl, (HZ.out.setCell (Nat.le_refl _) _).setCell (Nat.le_refl _) _⟩
set_option maxRecDepth 100000 in
set_option maxHeartbeats 1000000 in
theorem read_any (A : Option Addr) (n cp : Nat) (at_ : Int) (xs : List Int) (w : World) (hn : n ≤ 1048576) (hcp : n ≤ cp) (hcp2 : cp ≤ 9223372036854775807) (hb : BytesAt w A n xs) (hf : FormsAt w) (ht : Tabs w) :
    Calls Tryd.prog 24 #[.slice A n cp, .int .i64 at_, .bool true] w (TellExt (extN xs at_) w) := by
  by_cases h : at_ < 0 ∨ (n : Int) < at_
  · have HQ : Hid (extN xs at_ = ([], [], 0, 3)) := by show _ = _; unfold extN; rw [if_pos (by rw [hb.1]; exact h)]
    generalize extN xs at_ = r at HQ ⊢
    clear hb hf ht
    by_cases h0 : at_ < 0
    · clear h
      go_enter Tryd.func24, Tryd.ntmps24
      go_wp2
      refine bodyPost_ret (v := .tuple #[.agg #[.string ⟨#[]⟩, .string ⟨#[]⟩], .int .i64 0, .int .i64 3]) (by simp [results, Tryd.results24, go_sem]) rfl ?_
      rw [HQ.out]
      exact ⟨rfl, (Below.refl _ _).alloc (Nat.le_refl _) _⟩
    · have h1 : (n : Int) < at_ := by omega
      clear h
      go_enter Tryd.func24, Tryd.ntmps24
      go_wp2
      refine bodyPost_ret (v := .tuple #[.agg #[.string ⟨#[]⟩, .string ⟨#[]⟩], .int .i64 0, .int .i64 3]) (by simp [results, Tryd.results24, go_sem]) rfl ?_
      rw [HQ.out]
      exact ⟨rfl, (Below.refl _ _).alloc (Nat.le_refl _) _⟩
  · obtain ⟨i, rfl⟩ : ∃ i : Nat, at_ = i := ⟨at_.toNat, by omega⟩
    exact read_in A n cp i xs w hn hcp hcp2 (by omega) hb hf ht
set_option maxRecDepth 100000 in
set_option maxHeartbeats 1000000 in
theorem ext_any (A : Option Addr) (n cp : Nat) (at_ : Int) (xs : List Int) (w : World) (hn : n ≤ 1048576) (hcp : n ≤ cp) (hcp2 : cp ≤ 9223372036854775807) (hb : BytesAt w A n xs) (hf : FormsAt w) (ht : Tabs w) :
    Calls Tryd.prog 10 #[.slice A n cp, .int .i64 at_] w (TellExt (extN xs at_) w) := by
  obtain ⟨W, hW⟩ : ∃ W, W = w.alloc (.cells #[.string ⟨#[]⟩, .string ⟨#[]⟩] 25) := ⟨_, rfl⟩
  have hBW : Below w.heap.size w W := by rw [hW]; exact (Below.refl _ _).alloc (Nat.le_refl _) _
  have hIB : IdBlk w.heap.size ⟨#[]⟩ ⟨#[]⟩ W := by
    show W.heap[w.heap.size]? = _
    rw [hW, World.alloc]; simp
  have C := Lib.hid (read_any A n cp at_ xs W hn hcp hcp2 (hb.below hBW) (hf.below hBW hf.size) (ht.below hBW ht.size))
  generalize extN xs at_ = r at C ⊢
  have HW := Lib.hid hW
  have HIB := Lib.hid hIB
  have HBW := Lib.hid hBW
  clear hb hf ht hW hIB hBW
  go_enter Tryd.func10, Tryd.ntmps10
  go_wp2_with fail
  rw [← HW.out]
  refine C.out.mono ?_
  rintro e w1 ⟨rfl, hB⟩
  obtain ⟨i0, i1, j0, j1⟩ := (HIB.out.below hB).cells
  have HB := Lib.hid (HBW.out.trans (hB.mono HBW.out.size))
  clear hB
  go_wp2
  refine bodyPost_ret (v := .tuple #[.agg #[.string (strOfNums r.1), .string (strOfNums r.2.1)], .int .i64 r.2.2.1, .int .i64 r.2.2.2]) (by simp [results, Tryd.results10, go_sem, i0, i1, j0, j1]) rfl ?_
  exact ⟨rfl, (HB.out.setCell (Nat.le_refl _) _).setCell (Nat.le_refl _) _⟩
end Go.Proofs.YtbklopnpehafpaaDoor
