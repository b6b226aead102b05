/- Merged texts: ExtPutPlain, ExtPutW. -/
import Derived.Test.YtbklopnpehafpaaDoorExtDocPlain
import Derived.Test.YtbklopnpehafpaaDoorNamePlain2
import Derived.Test.YtbklopnpehafpaaDoorExtHeads
import Derived.Test.YtbklopnpehafpaaDoorStrEq
import Derived.Lib.IndexAny
/- An identifier that is written is read as itself: plain lists of bytes. No program in sight, but for the names. -/
namespace Go.Proofs.YtbklopnpehafpaaDoor
open Go.RowKit Go.Proofs.YtbklopnpehafpaaDoor.UtfPlain Go.Proofs.YtbklopnpehafpaaDoor.NamePlain Go.Proofs.YtbklopnpehafpaaDoor.CharsPlain
set_option linter.unusedVariables false
theorem rest_no34 (bs : List Int) (i : Nat) (h : 0 ≤ rest bs i) : bs[i]? ≠ some 34 := by
  intro e
  unfold rest at h
  rw [e] at h
  simp at h
theorem scan_no34 (bs : List Int) (f : Nat) : ∀ (i : Nat) (rs : List Int), bs.length - i ≤ f → scan bs f i = (rs, none) → rs.all isPubid = true → ∀ j, i ≤ j → bs[j]? ≠ some 34 := by
  induction f with
  | zero =>
    intro i rs hf he hp j hj
    rw [List.getElem?_eq_none (by omega)]; simp
  | succ f ih =>
    intro i rs hf he hp j hj
    by_cases hi : i < bs.length
    · unfold scan at he
      rw [if_pos hi] at he
      by_cases hc : (charAt bs i).2 = 0
      · rw [if_pos hc] at he; cases he
      · rw [if_neg hc] at he
        obtain ⟨h1, h2⟩ := Prod.mk.inj he
        subst h1
        simp only [List.all_cons, Bool.and_eq_true] at hp
        rcases Nat.lt_or_ge j (i + (charAt bs i).2) with h | h
        · rcases Nat.eq_or_lt_of_le hj with rfl | hlt
          · intro e34
            have h3 := charAt_low bs i 34 e34 (by omega) hc
            rw [h3] at hp
            exact absurd hp.1 (by decide)
          · obtain ⟨k, rfl⟩ : ∃ k, j = i + k := ⟨j - i, by omega⟩
            exact rest_no34 bs _ (charAt_cont bs i k (by omega) (by omega))
        · exact ih _ _ (by omega) (Prod.ext rfl h2) hp.2 j h
    · rw [List.getElem?_eq_none (by omega)]; simp
theorem pub_no34 (bs : List Int) (h : pubK (runes bs) = true) : 34 ∉ bs := by
  intro hm
  obtain ⟨j, hj, he⟩ := List.getElem_of_mem hm
  unfold pubK at h
  rw [Bool.and_eq_true, Option.isNone_iff_eq_none] at h
  refine scan_no34 bs bs.length 0 (runes bs).1 (by omega) (Prod.ext rfl h.1) h.2 j (Nat.zero_le _) ?_
  rw [List.getElem?_eq_getElem hj, he]
theorem nextN_first (bs : List Int) (c : Int) (k : Nat) (hk : bs[k]? = some c) (m : Nat) : ∀ i, k - i = m → i ≤ k → (∀ j, i ≤ j → j < k → bs[j]? ≠ some c) → nextN bs c i = some k := by
  have hkl : k < bs.length := (List.getElem?_eq_some_iff.1 hk).1
  induction m with
  | zero =>
    intro i hm hi hno
    obtain rfl : i = k := by omega
    exact nextN_yes bs c i hkl (by rw [List.getD_eq_getElem?_getD, hk]; rfl)
  | succ m ih =>
    intro i hm hi hno
    rw [nextN_no bs c i (by omega) ?_]
    · exact ih (i + 1) (by omega) (by omega) (fun j h1 h2 => hno j (by omega) h2)
    · intro h
      apply hno i (Nat.le_refl _) (by omega)
      rw [List.getD_eq_getElem?_getD, List.getElem?_eq_getElem (by omega)] at h
      rw [List.getElem?_eq_getElem (by omega)]
      exact congrArg some h
theorem quoteN_lit (xs pre s post : List Int) (q : Int) (hx : xs = pre ++ q :: (s ++ q :: post)) (hq : q = 34 ∨ q = 39) (hs : q ∉ s) (i : Nat) (hi : i = pre.length) : quoteN xs i = (s, (i : Int) + s.length + 2, 0) := by
  subst hi
  have h0 : xs[pre.length]? = some q := by rw [hx, List.getElem?_append_right (Nat.le_refl _)]; simp
  have hl : xs.length = pre.length + s.length + 2 + post.length := by rw [hx]; simp; omega
  have hd : xs.getD pre.length 0 = q := by rw [List.getD_eq_getElem?_getD, h0]; rfl
  have hk : xs[pre.length + 1 + s.length]? = some q := by
    rw [hx, List.getElem?_append_right (by omega), show pre.length + 1 + s.length - pre.length = s.length + 1 by omega, List.getElem?_cons_succ, List.getElem?_append_right (Nat.le_refl _)]
    simp
  have hn : nextN xs q (pre.length + 1) = some (pre.length + 1 + s.length) := by
    refine nextN_first xs q _ hk _ _ rfl (by omega) ?_
    intro j h1 h2 he
    rw [hx, List.getElem?_append_right (by omega), show j - pre.length = (j - pre.length - 1) + 1 by omega, List.getElem?_cons_succ, List.getElem?_append_left (by omega)] at he
    exact hs (List.mem_of_getElem? he)
  rw [quoteN_yes xs pre.length (by omega) (by rw [hd]; exact hq), hd, hn]
  have hc : cut xs (pre.length + 1) (pre.length + 1 + s.length) = s := by
    unfold cut
    rw [hx, show pre.length + 1 + s.length - (pre.length + 1) = s.length by omega, ← List.drop_drop, List.drop_left]
    simp
  simp only [hc]
  refine Prod.ext rfl (Prod.ext ?_ rfl)
  show ((pre.length + 1 + s.length : Nat) : Int) + 1 = _
  dsimp only
  omega
theorem blankZ_lit (xs pre post : List Int) (q : Int) (hx : xs = pre ++ 32 :: q :: post) (hq : isBlank q = false) (i : Nat) (hi : i = pre.length) : blankZ xs i = (i : Int) + 1 := by
  subst hi
  have h0 : xs[pre.length]? = some 32 := by rw [hx, List.getElem?_append_right (Nat.le_refl _)]; simp
  have h1 : xs[pre.length + 1]? = some q := by rw [hx, List.getElem?_append_right (by omega), show pre.length + 1 - pre.length = 1 by omega]; rfl
  rw [blankZ_yes xs pre.length 32 h0 (by decide)]
  exact blankZ_no xs (pre.length + 1) q h1 hq
theorem quote_noblank {q : Int} (hq : q = 34 ∨ q = 39) : isBlank q = false := by rcases hq with rfl | rfl <;> decide
/-- A system's part behind a blank. -/
theorem sysN_lit (xs pre s : List Int) (q : Int) (hx : xs = pre ++ 32 :: q :: (s ++ [q])) (hq : q = 34 ∨ q = 39) (hs : q ∉ s) (i : Nat) (hi : i = pre.length) : sysN xs i = (s, (i : Int) + s.length + 3, 0) := by
  unfold sysN
  rw [blankZ_lit xs pre (s ++ [q]) q hx (quote_noblank hq) i hi, if_neg (by omega)]
  have h := quoteN_lit xs (pre ++ [32]) s [] q (by rw [hx]; simp) hq hs (i + 1) (by rw [hi]; simp)
  rw [show ((i : Int) + 1) = ((i + 1 : Nat) : Int) by omega, h]
  refine Prod.ext rfl (Prod.ext ?_ rfl)
  show ((i + 1 : Nat) : Int) + s.length + 2 = _
  dsimp only
  omega
theorem ext_system (s : List Int) (q : Int) (hq : q = 34 ∨ q = 39) (hs : q ∉ s) : extN (systemB ++ 32 :: q :: (s ++ [q])) 0 = ([], s, (s.length : Int) + 9, 0) := by
  have h := sysN_lit (systemB ++ 32 :: q :: (s ++ [q])) systemB s q rfl hq hs 6 rfl
  unfold extN
  rw [if_neg (by omega)]
  have hp : sortN ((systemB ++ 32 :: q :: (s ++ [q])).drop (0 : Int).toNat) = 2 := by
    unfold sortN systemB publicB
    simp [List.isPrefixOf]
  rw [hp, if_neg (by decide), if_pos rfl]
  rw [show ((0 : Int) + 6) = ((6 : Nat) : Int) from rfl, h]
  unfold withSys
  rw [if_pos rfl]
  refine Prod.ext rfl (Prod.ext rfl (Prod.ext ?_ rfl))
  show ((6 : Nat) : Int) + s.length + 3 = _
  dsimp only
  omega
theorem ext_public (p s : List Int) (q : Int) (hq : q = 34 ∨ q = 39) (hs : q ∉ s) (hp : pubK (runes p) = true) :
    extN (publicB ++ 32 :: 34 :: (p ++ 34 :: 32 :: q :: (s ++ [q]))) 0 = (p, s, (p.length : Int) + s.length + 12, 0) := by
  obtain ⟨xs, hx⟩ : ∃ xs, xs = publicB ++ 32 :: 34 :: (p ++ 34 :: 32 :: q :: (s ++ [q])) := ⟨_, rfl⟩
  rw [← hx]
  have h1 := blankZ_lit xs publicB (p ++ 34 :: 32 :: q :: (s ++ [q])) 34 hx (by decide) 6 rfl
  have h2 := quoteN_lit xs (publicB ++ [32]) p (32 :: q :: (s ++ [q])) 34 (by rw [hx]; simp) (.inl rfl) (pub_no34 p hp) 7 rfl
  have h3 := sysN_lit xs (publicB ++ 32 :: 34 :: (p ++ [34])) s q (by rw [hx]; simp) hq hs (9 + p.length) (by simp [publicB]; omega)
  have hpub : pubN xs ((7 : Nat) : Int) = (p, (p.length : Int) + 9, 0) := by
    unfold pubN
    rw [h2]
    dsimp only
    rw [if_neg (by simp), hp, if_pos rfl]
    refine Prod.ext rfl (Prod.ext ?_ rfl)
    show ((7 : Nat) : Int) + p.length + 2 = _
    dsimp only
    omega
  have hpp : pubP xs ((6 : Nat) : Int) = (p, (p.length : Int) + 9, 0) := by
    unfold pubP
    rw [h1, if_neg (by omega), show (((6 : Nat) : Int) + 1) = ((7 : Nat) : Int) from rfl, hpub]
  unfold extN
  have hl : (0 : Int) ≤ (xs.length : Int) := by omega
  rw [if_neg (by omega)]
  have ho : sortN (xs.drop (0 : Int).toNat) = 1 := by
    rw [hx]
    unfold sortN systemB publicB
    simp [List.isPrefixOf]
  rw [ho, if_pos rfl, show ((0 : Int) + 6) = ((6 : Nat) : Int) from rfl, hpp]
  dsimp only
  rw [if_pos rfl, show ((p.length : Int) + 9) = ((9 + p.length : Nat) : Int) by omega, h3]
  unfold withSys
  rw [if_pos rfl]
  refine Prod.ext rfl (Prod.ext rfl (Prod.ext ?_ rfl))
  show ((9 + p.length : Nat) : Int) + s.length + 3 = _
  dsimp only
  omega
end Go.Proofs.YtbklopnpehafpaaDoor
/- The contracts of Put and the reference's Put. Conditions: texts of at most 300 bytes; the tables of chars and of utf hold what the text gives them. Printed by gen-extput.py. -/
namespace Go.Proofs.YtbklopnpehafpaaDoor
open Go.RowKit Go.Proofs.YtbklopnpehafpaaDoor.UtfPlain Go.Proofs.YtbklopnpehafpaaDoor.NamePlain Go.Proofs.YtbklopnpehafpaaDoor.CharsPlain
set_option linter.unusedVariables false
set_option linter.unusedSimpArgs false
theorem take_snocE (s : ByteArray) (k : Nat) (h : k < s.size) : s.data.toList.take (k + 1) = s.data.toList.take k ++ [s[k]] := by
  rw [List.take_succ_eq_append_getElem (by simpa using h)]; rfl
theorem u8_eqE (c : UInt8) (n : Int) (h0 : 0 ≤ n) (h1 : n ≤ 255) : ((c.toNat : Int) = n) ↔ c = n.toNat.toUInt8 := by
  constructor
  · intro h; subst h; simp
  · intro h; subst h
    show ((n.toNat.toUInt8).toNat : Int) = n
    rw [Nat.toUInt8, UInt8.toNat_ofNat']
    omega
set_option maxRecDepth 100000 in
set_option maxHeartbeats 2000000 in
theorem hasE_aux (s : ByteArray) (c : Int) (b : Bool) (w : World) (hs : s.size ≤ 1099511627776) (h0 : 0 ≤ c) (h1 : c ≤ 255) (hb : Hid (s.data.toList.contains c.toNat.toUInt8 = b)) :
    Calls Tryd.prog 22 #[.string s, .int .u8 c] w (RetB b w) := by
  go_enter Tryd.func22, Tryd.ntmps22
  go_wp2
  go_loop [5] (fun v5 => ∃ k : Nat, k ≤ s.size ∧ v5 = .int .i64 k ∧ Hid ((s.data.toList.take k).contains c.toNat.toUInt8 = false)) (fun v5 => s.size - (intOf v5).toNat)
  case atStart => exact ⟨0, Nat.zero_le _, rfl, by show _ = false; simp⟩
  case round =>
    obtain ⟨k, hk, rfl, HC⟩ := hrel
    by_cases hlt : k < s.size
    · by_cases hx : ((s[k].toNat : Int) = c)
      · have t1 : ((s[k].toNat : Int) == c) = true := by simpa using hx
        have HX := Lib.hid ((u8_eqE _ _ h0 h1).1 hx)
        clear hx
        go_wp2
        go_ret
        have hm : b = true := by
          rw [← hb.out, List.contains_iff_mem, ← HX.out]
          show s.data[k] ∈ _
          simp
        exact ⟨by rw [hm]; rfl, rfl⟩
      · have t1 : ((s[k].toNat : Int) == c) = false := by simpa using hx
        have HX := Lib.hid (fun h : s[k] = c.toNat.toUInt8 => hx ((u8_eqE s[k] _ h0 h1).2 h))
        clear hx
        go_wp2
        go_round
        case rel =>
          refine ⟨k + 1, by omega, by go_num, ?_⟩
          show _ = false
          rw [take_snocE s k hlt, List.contains_append, HC.out]
          simpa using fun h => HX.out h.symm
        case measure => simp [intOf]; omega
    · obtain rfl : k = s.size := by omega
      go_wp2
      go_ret
      have hm : b = false := by
        have := HC.out
        rw [List.take_of_length_le (by simp)] at this
        rw [← hb.out, this]
      exact ⟨by rw [hm]; rfl, rfl⟩
/-- Is a byte in a text? -/
def hasC (s : ByteArray) (c : UInt8) : Bool := s.data.toList.contains c
theorem has34 (s : ByteArray) (w : World) (hs : s.size ≤ 1099511627776) : Calls Tryd.prog 22 #[.string s, .int .u8 34] w (RetB (hasC s 34) w) := hasE_aux s 34 _ w hs (by decide) (by decide) rfl
theorem has39 (s : ByteArray) (w : World) (hs : s.size ≤ 1099511627776) : Calls Tryd.prog 22 #[.string s, .int .u8 39] w (RetB (hasC s 39) w) := hasE_aux s 39 _ w hs (by decide) (by decide) rfl
theorem cont_any (s : ByteArray) (c : UInt8) (w : World) : Calls Tryd.prog 19 #[.string s, .string ⟨#[c]⟩] w fun e w' => e = .returned (.bool (hasC s c)) ∧ w' = w := by
  have h := Tryd.strings_Contains_one s c w
  rw [← Lib.contains_iff_indexByte] at h
  exact h
/-- An identifier as it is written, between some quotes. -/
def putS (pub sys q : ByteArray) : ByteArray :=
  if pub = ⟨#[]⟩ then ⟨#[83, 89, 83, 84, 69, 77, 32]⟩ ++ q ++ sys ++ q else ⟨#[80, 85, 66, 76, 73, 67, 32, 34]⟩ ++ pub ++ ⟨#[34, 32]⟩ ++ q ++ sys ++ q
def putQ (two : Bool) : ByteArray := if two then ⟨#[39]⟩ else ⟨#[34]⟩
def putOk (pub sys : ByteArray) : Bool := pubK (runes (bsOf pub)) && !(hasC sys 34 && hasC sys 39)
def putT (pub sys : ByteArray) : ByteArray := if putOk pub sys then putS pub sys (putQ (hasC sys 34)) else ⟨#[]⟩
def TellPut (ok : Bool) (s : ByteArray) (w : World) (e : Ending) (w' : World) : Prop := e = .returned (.tuple #[.string s, .int .i64 (if ok then 0 else 7)]) ∧ Below w.heap.size w w'
def TellPutR (ok : Bool) (s : ByteArray) (w : World) (e : Ending) (w' : World) : Prop := e = .returned (.tuple #[.string s, .bool ok]) ∧ Below w.heap.size w w'
theorem put_no {pub sys : ByteArray} (h : putOk pub sys = false) : putT pub sys = ⟨#[]⟩ := by unfold putT; rw [h]; rfl
theorem put_sys {pub sys : ByteArray} (h : putOk pub sys = true) (hp : pub = ⟨#[]⟩) : putT pub sys = ⟨#[83, 89, 83, 84, 69, 77, 32]⟩ ++ putQ (hasC sys 34) ++ sys ++ putQ (hasC sys 34) := by unfold putT putS; rw [if_pos h, if_pos hp]
theorem put_pub {pub sys : ByteArray} (h : putOk pub sys = true) (hp : ¬ pub = ⟨#[]⟩) : putT pub sys = ⟨#[80, 85, 66, 76, 73, 67, 32, 34]⟩ ++ pub ++ ⟨#[34, 32]⟩ ++ putQ (hasC sys 34) ++ sys ++ putQ (hasC sys 34) := by unfold putT putS; rw [if_pos h, if_neg hp]
set_option maxRecDepth 100000 in
set_option maxHeartbeats 4000000 in
theorem rput_any (pub sys : ByteArray) (w : World) (hp : pub.size ≤ 300) (hs : sys.size ≤ 300) :
    Calls Tryd.prog 9 #[.agg #[.string pub, .string sys]] w (TellPutR (putOk pub sys) (putT pub sys) w) := by
  obtain ⟨W, hW⟩ : ∃ W, W = w.alloc (.cells #[.string pub, .string sys] 25) := ⟨_, rfl⟩
  have hBW : Below w.heap.size w W := by rw [hW]; exact (Below.refl _ _).alloc (Nat.le_refl _) _
  have hIB : IdBlk w.heap.size pub sys W := by
    unfold IdBlk
    rw [hW, World.alloc]; simp
  have h1 := fun V => has34 sys V (by omega)
  have h2 := fun V => has39 sys V (by omega)
  have h3 := fun V => rcall_any 4 (some ⟨V.heap.size, 0, none⟩) pub.size (grownCap V pub.size 0 5) (bsOf pub) _ (by omega) (by omega) (bytesWorld_bytes V pub)
  simp only [show allK 4 (runes (bsOf pub)) = pubK (runes (bsOf pub)) from rfl] at h3
  have hcv := fun V => Lib.run_convert_string_bytes (P := Tryd.prog) V 9 22 5 pub Tryd.underlying9 Tryd.underlying22 Tryd.underlying5
  obtain ⟨ok, hok⟩ : ∃ ok, ok = putOk pub sys := ⟨_, rfl⟩
  obtain ⟨T, hT⟩ : ∃ T, T = putT pub sys := ⟨_, rfl⟩
  have hn := fun h => hT.trans (put_no (pub := pub) (sys := sys) h)
  have hy1 := fun h hp => hT.trans (put_sys (pub := pub) (sys := sys) h hp)
  have hy2 := fun h hp => hT.trans (put_pub (pub := pub) (sys := sys) h hp)
  rw [← hok, ← hT]
  rw [← hok] at hn hy1 hy2
  unfold putOk at hok
  clear hT
  generalize hasC sys 34 = two at h1 hok hy1 hy2
  generalize hasC sys 39 = one at h2 hok
  generalize pubK (runes (bsOf pub)) = p at h3 hok
  have h1 := Lib.hid h1
  have h2 := Lib.hid h2
  have h3 := Lib.hid h3
  have HN := Lib.hid hn
  have HY1 := Lib.hid hy1
  have HY2 := Lib.hid hy2
  have HOK := Lib.hid hok
  have HW := Lib.hid hW
  have HBW := Lib.hid hBW
  obtain ⟨i0, i1, j0, j1⟩ := hIB.cells
  have HIB := Lib.hid hIB
  clear hn hy1 hy2 hok hW hBW hIB
  cases two with
  | true =>
    cases one with
    | true =>
      cases p with
      | true =>
        have HK : Hid (ok = false) := by show _ = _; rw [HOK.out]; rfl
        go_enter Tryd.func9, Tryd.ntmps9
        go_wp2_with fail
        rw [← HW.out]
        refine (h1.out _).mono ?_
        rintro e w9 ⟨rfl, rfl⟩
        go_wp2_with fail
        refine (h3.out _).mono ?_
        rintro e w2 ⟨rfl, hB2⟩
        have HB := Lib.hid (HBW.out.trans (((bytesWorld_below W pub).trans (hB2.mono (bytesWorld_below W pub).size)).mono HBW.out.size))
        have hI2 := HIB.out.below ((bytesWorld_below W pub).trans (hB2.mono (bytesWorld_below W pub).size))
        clear hB2 i0 i1 j0 j1
        obtain ⟨i0, i1, j0, j1⟩ := hI2.cells
        clear hI2
        go_wp2_with fail
        refine (h2.out _).mono ?_
        rintro e w9 ⟨rfl, rfl⟩
        go_wp2
        go_ret2
        rw [HN.out HK.out, HK.out]
        exact ⟨rfl, HB.out⟩
      | false =>
        have HK : Hid (ok = false) := by show _ = _; rw [HOK.out]; rfl
        go_enter Tryd.func9, Tryd.ntmps9
        go_wp2_with fail
        rw [← HW.out]
        refine (h1.out _).mono ?_
        rintro e w9 ⟨rfl, rfl⟩
        go_wp2_with fail
        refine (h3.out _).mono ?_
        rintro e w2 ⟨rfl, hB2⟩
        have HB := Lib.hid (HBW.out.trans (((bytesWorld_below W pub).trans (hB2.mono (bytesWorld_below W pub).size)).mono HBW.out.size))
        have hI2 := HIB.out.below ((bytesWorld_below W pub).trans (hB2.mono (bytesWorld_below W pub).size))
        clear hB2 i0 i1 j0 j1
        obtain ⟨i0, i1, j0, j1⟩ := hI2.cells
        clear hI2
        go_wp2
        go_ret2
        rw [HN.out HK.out, HK.out]
        exact ⟨rfl, HB.out⟩
    | false =>
      cases p with
      | true =>
        have HK : Hid (ok = true) := by show _ = _; rw [HOK.out]; rfl
        by_cases he : pub = ⟨#[]⟩
        · have HQ := Lib.hid (HY1.out HK.out he)
          have t1 : (pub.toList == []) = true := by rw [he, ByteArray.toList_eq]; rfl
          clear he
          go_enter Tryd.func9, Tryd.ntmps9
          go_wp2_with fail
          rw [← HW.out]
          refine (h1.out _).mono ?_
          rintro e w9 ⟨rfl, rfl⟩
          go_wp2_with fail
          refine (h3.out _).mono ?_
          rintro e w2 ⟨rfl, hB2⟩
          have HB := Lib.hid (HBW.out.trans (((bytesWorld_below W pub).trans (hB2.mono (bytesWorld_below W pub).size)).mono HBW.out.size))
          have hI2 := HIB.out.below ((bytesWorld_below W pub).trans (hB2.mono (bytesWorld_below W pub).size))
          clear hB2 i0 i1 j0 j1
          obtain ⟨i0, i1, j0, j1⟩ := hI2.cells
          clear hI2
          go_wp2_with fail
          refine (h2.out _).mono ?_
          rintro e w9 ⟨rfl, rfl⟩
          go_wp2
          go_ret2
          rw [HQ.out, HK.out]
          exact ⟨by simp [putQ, ByteArray.append_assoc], HB.out⟩
        · have HQ := Lib.hid (HY2.out HK.out he)
          have t1 := strEmpty_no he
          clear he
          go_enter Tryd.func9, Tryd.ntmps9
          go_wp2_with fail
          rw [← HW.out]
          refine (h1.out _).mono ?_
          rintro e w9 ⟨rfl, rfl⟩
          go_wp2_with fail
          refine (h3.out _).mono ?_
          rintro e w2 ⟨rfl, hB2⟩
          have HB := Lib.hid (HBW.out.trans (((bytesWorld_below W pub).trans (hB2.mono (bytesWorld_below W pub).size)).mono HBW.out.size))
          have hI2 := HIB.out.below ((bytesWorld_below W pub).trans (hB2.mono (bytesWorld_below W pub).size))
          clear hB2 i0 i1 j0 j1
          obtain ⟨i0, i1, j0, j1⟩ := hI2.cells
          clear hI2
          go_wp2_with fail
          refine (h2.out _).mono ?_
          rintro e w9 ⟨rfl, rfl⟩
          go_wp2
          go_ret2
          rw [HQ.out, HK.out]
          exact ⟨by simp [putQ, ByteArray.append_assoc], HB.out⟩
      | false =>
        have HK : Hid (ok = false) := by show _ = _; rw [HOK.out]; rfl
        go_enter Tryd.func9, Tryd.ntmps9
        go_wp2_with fail
        rw [← HW.out]
        refine (h1.out _).mono ?_
        rintro e w9 ⟨rfl, rfl⟩
        go_wp2_with fail
        refine (h3.out _).mono ?_
        rintro e w2 ⟨rfl, hB2⟩
        have HB := Lib.hid (HBW.out.trans (((bytesWorld_below W pub).trans (hB2.mono (bytesWorld_below W pub).size)).mono HBW.out.size))
        have hI2 := HIB.out.below ((bytesWorld_below W pub).trans (hB2.mono (bytesWorld_below W pub).size))
        clear hB2 i0 i1 j0 j1
        obtain ⟨i0, i1, j0, j1⟩ := hI2.cells
        clear hI2
        go_wp2
        go_ret2
        rw [HN.out HK.out, HK.out]
        exact ⟨rfl, HB.out⟩
  | false =>
    cases one with
    | true =>
      cases p with
      | true =>
        have HK : Hid (ok = true) := by show _ = _; rw [HOK.out]; rfl
        by_cases he : pub = ⟨#[]⟩
        · have HQ := Lib.hid (HY1.out HK.out he)
          have t1 : (pub.toList == []) = true := by rw [he, ByteArray.toList_eq]; rfl
          clear he
          go_enter Tryd.func9, Tryd.ntmps9
          go_wp2_with fail
          rw [← HW.out]
          refine (h1.out _).mono ?_
          rintro e w9 ⟨rfl, rfl⟩
          go_wp2_with fail
          refine (h3.out _).mono ?_
          rintro e w2 ⟨rfl, hB2⟩
          have HB := Lib.hid (HBW.out.trans (((bytesWorld_below W pub).trans (hB2.mono (bytesWorld_below W pub).size)).mono HBW.out.size))
          have hI2 := HIB.out.below ((bytesWorld_below W pub).trans (hB2.mono (bytesWorld_below W pub).size))
          clear hB2 i0 i1 j0 j1
          obtain ⟨i0, i1, j0, j1⟩ := hI2.cells
          clear hI2
          go_wp2
          go_ret2
          rw [HQ.out, HK.out]
          exact ⟨by simp [putQ, ByteArray.append_assoc], HB.out⟩
        · have HQ := Lib.hid (HY2.out HK.out he)
          have t1 := strEmpty_no he
          clear he
          go_enter Tryd.func9, Tryd.ntmps9
          go_wp2_with fail
          rw [← HW.out]
          refine (h1.out _).mono ?_
          rintro e w9 ⟨rfl, rfl⟩
          go_wp2_with fail
          refine (h3.out _).mono ?_
          rintro e w2 ⟨rfl, hB2⟩
          have HB := Lib.hid (HBW.out.trans (((bytesWorld_below W pub).trans (hB2.mono (bytesWorld_below W pub).size)).mono HBW.out.size))
          have hI2 := HIB.out.below ((bytesWorld_below W pub).trans (hB2.mono (bytesWorld_below W pub).size))
          clear hB2 i0 i1 j0 j1
          obtain ⟨i0, i1, j0, j1⟩ := hI2.cells
          clear hI2
          go_wp2
          go_ret2
          rw [HQ.out, HK.out]
          exact ⟨by simp [putQ, ByteArray.append_assoc], HB.out⟩
      | false =>
        have HK : Hid (ok = false) := by show _ = _; rw [HOK.out]; rfl
        go_enter Tryd.func9, Tryd.ntmps9
        go_wp2_with fail
        rw [← HW.out]
        refine (h1.out _).mono ?_
        rintro e w9 ⟨rfl, rfl⟩
        go_wp2_with fail
        refine (h3.out _).mono ?_
        rintro e w2 ⟨rfl, hB2⟩
        have HB := Lib.hid (HBW.out.trans (((bytesWorld_below W pub).trans (hB2.mono (bytesWorld_below W pub).size)).mono HBW.out.size))
        have hI2 := HIB.out.below ((bytesWorld_below W pub).trans (hB2.mono (bytesWorld_below W pub).size))
        clear hB2 i0 i1 j0 j1
        obtain ⟨i0, i1, j0, j1⟩ := hI2.cells
        clear hI2
        go_wp2
        go_ret2
        rw [HN.out HK.out, HK.out]
        exact ⟨rfl, HB.out⟩
    | false =>
      cases p with
      | true =>
        have HK : Hid (ok = true) := by show _ = _; rw [HOK.out]; rfl
        by_cases he : pub = ⟨#[]⟩
        · have HQ := Lib.hid (HY1.out HK.out he)
          have t1 : (pub.toList == []) = true := by rw [he, ByteArray.toList_eq]; rfl
          clear he
          go_enter Tryd.func9, Tryd.ntmps9
          go_wp2_with fail
          rw [← HW.out]
          refine (h1.out _).mono ?_
          rintro e w9 ⟨rfl, rfl⟩
          go_wp2_with fail
          refine (h3.out _).mono ?_
          rintro e w2 ⟨rfl, hB2⟩
          have HB := Lib.hid (HBW.out.trans (((bytesWorld_below W pub).trans (hB2.mono (bytesWorld_below W pub).size)).mono HBW.out.size))
          have hI2 := HIB.out.below ((bytesWorld_below W pub).trans (hB2.mono (bytesWorld_below W pub).size))
          clear hB2 i0 i1 j0 j1
          obtain ⟨i0, i1, j0, j1⟩ := hI2.cells
          clear hI2
          go_wp2
          go_ret2
          rw [HQ.out, HK.out]
          exact ⟨by simp [putQ, ByteArray.append_assoc], HB.out⟩
        · have HQ := Lib.hid (HY2.out HK.out he)
          have t1 := strEmpty_no he
          clear he
          go_enter Tryd.func9, Tryd.ntmps9
          go_wp2_with fail
          rw [← HW.out]
          refine (h1.out _).mono ?_
          rintro e w9 ⟨rfl, rfl⟩
          go_wp2_with fail
          refine (h3.out _).mono ?_
          rintro e w2 ⟨rfl, hB2⟩
          have HB := Lib.hid (HBW.out.trans (((bytesWorld_below W pub).trans (hB2.mono (bytesWorld_below W pub).size)).mono HBW.out.size))
          have hI2 := HIB.out.below ((bytesWorld_below W pub).trans (hB2.mono (bytesWorld_below W pub).size))
          clear hB2 i0 i1 j0 j1
          obtain ⟨i0, i1, j0, j1⟩ := hI2.cells
          clear hI2
          go_wp2
          go_ret2
          rw [HQ.out, HK.out]
          exact ⟨by simp [putQ, ByteArray.append_assoc], HB.out⟩
      | false =>
        have HK : Hid (ok = false) := by show _ = _; rw [HOK.out]; rfl
        go_enter Tryd.func9, Tryd.ntmps9
        go_wp2_with fail
        rw [← HW.out]
        refine (h1.out _).mono ?_
        rintro e w9 ⟨rfl, rfl⟩
        go_wp2_with fail
        refine (h3.out _).mono ?_
        rintro e w2 ⟨rfl, hB2⟩
        have HB := Lib.hid (HBW.out.trans (((bytesWorld_below W pub).trans (hB2.mono (bytesWorld_below W pub).size)).mono HBW.out.size))
        have hI2 := HIB.out.below ((bytesWorld_below W pub).trans (hB2.mono (bytesWorld_below W pub).size))
        clear hB2 i0 i1 j0 j1
        obtain ⟨i0, i1, j0, j1⟩ := hI2.cells
        clear hI2
        go_wp2
        go_ret2
        rw [HN.out HK.out, HK.out]
        exact ⟨rfl, HB.out⟩
set_option maxRecDepth 100000 in
set_option maxHeartbeats 4000000 in
theorem put_any (pub sys : ByteArray) (w : World) (hp : pub.size ≤ 300) (hs : sys.size ≤ 300) (hf : FormsAt w) (ht : Tabs w) :
    Calls Tryd.prog 8 #[.agg #[.string pub, .string sys]] w (TellPut (putOk pub sys) (putT pub sys) w) := by
  obtain ⟨W, hW⟩ : ∃ W, W = w.alloc (.cells #[.string pub, .string sys] 25) := ⟨_, rfl⟩
  have hBW : Below w.heap.size w W := by rw [hW]; exact (Below.refl _ _).alloc (Nat.le_refl _) _
  have hIB : IdBlk w.heap.size pub sys W := by
    unfold IdBlk
    rw [hW, World.alloc]; simp
  have h1 := fun V => cont_any sys 34 V
  have h2 := fun V => cont_any sys 39 V
  have h3 := fun V (hV : Below w.heap.size w V) =>
    have hC := hV.trans ((bytesWorld_below V pub).mono hV.size)
    have hg1 := grownCap_ge V pub.size 0 5
    have hg2 := grownCap_le_maxLen V pub.size 0 5 (by unfold maxLen; omega)
    callP_any 21 (isK 4) (enters_of Tryd.func21 (by kernel_rfl) rfl) (fun r W h => (pubid_any r W).mono fun e w' ⟨h1, h2⟩ => ⟨h1, h2 ▸ Below.refl _ _⟩) (some ⟨V.heap.size, 0, none⟩) pub.size (grownCap V pub.size 0 5) (bsOf pub) _ (by omega) hg1 (by unfold maxLen at hg2; omega) (bytesWorld_bytes V pub) (hf.below hC hf.size) (ht.below hC ht.size)
  simp only [show allP (isK 4) (runes (bsOf pub)) = pubK (runes (bsOf pub)) from rfl] at h3
  have hcv := fun V => Lib.run_convert_string_bytes (P := Tryd.prog) V 9 22 5 pub Tryd.underlying9 Tryd.underlying22 Tryd.underlying5
  obtain ⟨ok, hok⟩ : ∃ ok, ok = putOk pub sys := ⟨_, rfl⟩
  obtain ⟨T, hT⟩ : ∃ T, T = putT pub sys := ⟨_, rfl⟩
  have hn := fun h => hT.trans (put_no (pub := pub) (sys := sys) h)
  have hy1 := fun h hp => hT.trans (put_sys (pub := pub) (sys := sys) h hp)
  have hy2 := fun h hp => hT.trans (put_pub (pub := pub) (sys := sys) h hp)
  rw [← hok, ← hT]
  rw [← hok] at hn hy1 hy2
  unfold putOk at hok
  clear hT
  generalize hasC sys 34 = two at h1 hok hy1 hy2
  generalize hasC sys 39 = one at h2 hok
  generalize pubK (runes (bsOf pub)) = p at h3 hok
  have h1 := Lib.hid h1
  have h2 := Lib.hid h2
  have h3 := Lib.hid h3
  have HN := Lib.hid hn
  have HY1 := Lib.hid hy1
  have HY2 := Lib.hid hy2
  have HOK := Lib.hid hok
  have HW := Lib.hid hW
  have HBW := Lib.hid hBW
  obtain ⟨i0, i1, j0, j1⟩ := hIB.cells
  have HIB := Lib.hid hIB
  have HF := Lib.hid hf
  have HT := Lib.hid ht
  clear hf ht
  clear hn hy1 hy2 hok hW hBW hIB
  cases two with
  | true =>
    cases one with
    | true =>
      cases p with
      | true =>
        have HK : Hid (ok = false) := by show _ = _; rw [HOK.out]; rfl
        go_enter Tryd.func8, Tryd.ntmps8
        go_wp2_with fail
        rw [← HW.out]
        go_quiet ((first | (go_at_call 19; exact Calls.quiet_of_same (h1.out _)) | (go_at_call 19; exact Calls.quiet_of_same (h2.out _))))
        generalize hVV : W.drewN nq = V at *
        have HBV : Hid (Below w.heap.size w V) := by show Below _ _ _; rw [← hVV]; exact HBW.out.trans (belowN_drewN _ _ _)
        have hIV : IdBlk w.heap.size pub sys V := by rw [← hVV]; exact HIB.out
        clear hVV i0 i1 j0 j1
        obtain ⟨i0, i1, j0, j1⟩ := hIV.cells
        go_wp2_with fail
        refine (h3.out _ HBV.out).mono ?_
        rintro e w2 ⟨rfl, hB2⟩
        have HB := Lib.hid (HBV.out.trans (((bytesWorld_below V pub).trans (hB2.mono (bytesWorld_below V pub).size)).mono HBV.out.size))
        have hI2 := hIV.below ((bytesWorld_below V pub).trans (hB2.mono (bytesWorld_below V pub).size))
        clear hB2 i0 i1 j0 j1 hIV
        obtain ⟨i0, i1, j0, j1⟩ := hI2.cells
        clear hI2
        go_wp2
        go_ret2
        rw [HN.out HK.out, HK.out]
        exact ⟨rfl, HB.out⟩
      | false =>
        have HK : Hid (ok = false) := by show _ = _; rw [HOK.out]; rfl
        go_enter Tryd.func8, Tryd.ntmps8
        go_wp2_with fail
        rw [← HW.out]
        go_quiet ((first | (go_at_call 19; exact Calls.quiet_of_same (h1.out _)) | (go_at_call 19; exact Calls.quiet_of_same (h2.out _))))
        generalize hVV : W.drewN nq = V at *
        have HBV : Hid (Below w.heap.size w V) := by show Below _ _ _; rw [← hVV]; exact HBW.out.trans (belowN_drewN _ _ _)
        have hIV : IdBlk w.heap.size pub sys V := by rw [← hVV]; exact HIB.out
        clear hVV i0 i1 j0 j1
        obtain ⟨i0, i1, j0, j1⟩ := hIV.cells
        go_wp2_with fail
        refine (h3.out _ HBV.out).mono ?_
        rintro e w2 ⟨rfl, hB2⟩
        have HB := Lib.hid (HBV.out.trans (((bytesWorld_below V pub).trans (hB2.mono (bytesWorld_below V pub).size)).mono HBV.out.size))
        have hI2 := hIV.below ((bytesWorld_below V pub).trans (hB2.mono (bytesWorld_below V pub).size))
        clear hB2 i0 i1 j0 j1 hIV
        obtain ⟨i0, i1, j0, j1⟩ := hI2.cells
        clear hI2
        go_wp2
        go_ret2
        rw [HN.out HK.out, HK.out]
        exact ⟨rfl, HB.out⟩
    | false =>
      cases p with
      | true =>
        have HK : Hid (ok = true) := by show _ = _; rw [HOK.out]; rfl
        by_cases he : pub = ⟨#[]⟩
        · have HQ := Lib.hid (HY1.out HK.out he)
          have t1 : (pub.toList == []) = true := by rw [he, ByteArray.toList_eq]; rfl
          clear he
          go_enter Tryd.func8, Tryd.ntmps8
          go_wp2_with fail
          rw [← HW.out]
          go_quiet ((first | (go_at_call 19; exact Calls.quiet_of_same (h1.out _)) | (go_at_call 19; exact Calls.quiet_of_same (h2.out _))))
          generalize hVV : W.drewN nq = V at *
          have HBV : Hid (Below w.heap.size w V) := by show Below _ _ _; rw [← hVV]; exact HBW.out.trans (belowN_drewN _ _ _)
          have hIV : IdBlk w.heap.size pub sys V := by rw [← hVV]; exact HIB.out
          clear hVV i0 i1 j0 j1
          obtain ⟨i0, i1, j0, j1⟩ := hIV.cells
          go_wp2_with fail
          refine (h3.out _ HBV.out).mono ?_
          rintro e w2 ⟨rfl, hB2⟩
          have HB := Lib.hid (HBV.out.trans (((bytesWorld_below V pub).trans (hB2.mono (bytesWorld_below V pub).size)).mono HBV.out.size))
          have hI2 := hIV.below ((bytesWorld_below V pub).trans (hB2.mono (bytesWorld_below V pub).size))
          clear hB2 i0 i1 j0 j1 hIV
          obtain ⟨i0, i1, j0, j1⟩ := hI2.cells
          clear hI2
          go_wp2
          go_ret2
          rw [HQ.out, HK.out]
          exact ⟨by simp [putQ, ByteArray.append_assoc], HB.out⟩
        · have HQ := Lib.hid (HY2.out HK.out he)
          have t1 := strEmpty_no he
          clear he
          go_enter Tryd.func8, Tryd.ntmps8
          go_wp2_with fail
          rw [← HW.out]
          go_quiet ((first | (go_at_call 19; exact Calls.quiet_of_same (h1.out _)) | (go_at_call 19; exact Calls.quiet_of_same (h2.out _))))
          generalize hVV : W.drewN nq = V at *
          have HBV : Hid (Below w.heap.size w V) := by show Below _ _ _; rw [← hVV]; exact HBW.out.trans (belowN_drewN _ _ _)
          have hIV : IdBlk w.heap.size pub sys V := by rw [← hVV]; exact HIB.out
          clear hVV i0 i1 j0 j1
          obtain ⟨i0, i1, j0, j1⟩ := hIV.cells
          go_wp2_with fail
          refine (h3.out _ HBV.out).mono ?_
          rintro e w2 ⟨rfl, hB2⟩
          have HB := Lib.hid (HBV.out.trans (((bytesWorld_below V pub).trans (hB2.mono (bytesWorld_below V pub).size)).mono HBV.out.size))
          have hI2 := hIV.below ((bytesWorld_below V pub).trans (hB2.mono (bytesWorld_below V pub).size))
          clear hB2 i0 i1 j0 j1 hIV
          obtain ⟨i0, i1, j0, j1⟩ := hI2.cells
          clear hI2
          go_wp2
          go_ret2
          rw [HQ.out, HK.out]
          exact ⟨by simp [putQ, ByteArray.append_assoc], HB.out⟩
      | false =>
        have HK : Hid (ok = false) := by show _ = _; rw [HOK.out]; rfl
        go_enter Tryd.func8, Tryd.ntmps8
        go_wp2_with fail
        rw [← HW.out]
        go_quiet ((first | (go_at_call 19; exact Calls.quiet_of_same (h1.out _)) | (go_at_call 19; exact Calls.quiet_of_same (h2.out _))))
        generalize hVV : W.drewN nq = V at *
        have HBV : Hid (Below w.heap.size w V) := by show Below _ _ _; rw [← hVV]; exact HBW.out.trans (belowN_drewN _ _ _)
        have hIV : IdBlk w.heap.size pub sys V := by rw [← hVV]; exact HIB.out
        clear hVV i0 i1 j0 j1
        obtain ⟨i0, i1, j0, j1⟩ := hIV.cells
        go_wp2_with fail
        refine (h3.out _ HBV.out).mono ?_
        rintro e w2 ⟨rfl, hB2⟩
        have HB := Lib.hid (HBV.out.trans (((bytesWorld_below V pub).trans (hB2.mono (bytesWorld_below V pub).size)).mono HBV.out.size))
        have hI2 := hIV.below ((bytesWorld_below V pub).trans (hB2.mono (bytesWorld_below V pub).size))
        clear hB2 i0 i1 j0 j1 hIV
        obtain ⟨i0, i1, j0, j1⟩ := hI2.cells
        clear hI2
        go_wp2
        go_ret2
        rw [HN.out HK.out, HK.out]
        exact ⟨rfl, HB.out⟩
  | false =>
    cases one with
    | true =>
      cases p with
      | true =>
        have HK : Hid (ok = true) := by show _ = _; rw [HOK.out]; rfl
        by_cases he : pub = ⟨#[]⟩
        · have HQ := Lib.hid (HY1.out HK.out he)
          have t1 : (pub.toList == []) = true := by rw [he, ByteArray.toList_eq]; rfl
          clear he
          go_enter Tryd.func8, Tryd.ntmps8
          go_wp2_with fail
          rw [← HW.out]
          go_quiet ((first | (go_at_call 19; exact Calls.quiet_of_same (h1.out _)) | (go_at_call 19; exact Calls.quiet_of_same (h2.out _))))
          generalize hVV : W.drewN nq = V at *
          have HBV : Hid (Below w.heap.size w V) := by show Below _ _ _; rw [← hVV]; exact HBW.out.trans (belowN_drewN _ _ _)
          have hIV : IdBlk w.heap.size pub sys V := by rw [← hVV]; exact HIB.out
          clear hVV i0 i1 j0 j1
          obtain ⟨i0, i1, j0, j1⟩ := hIV.cells
          go_wp2_with fail
          refine (h3.out _ HBV.out).mono ?_
          rintro e w2 ⟨rfl, hB2⟩
          have HB := Lib.hid (HBV.out.trans (((bytesWorld_below V pub).trans (hB2.mono (bytesWorld_below V pub).size)).mono HBV.out.size))
          have hI2 := hIV.below ((bytesWorld_below V pub).trans (hB2.mono (bytesWorld_below V pub).size))
          clear hB2 i0 i1 j0 j1 hIV
          obtain ⟨i0, i1, j0, j1⟩ := hI2.cells
          clear hI2
          go_wp2
          go_ret2
          rw [HQ.out, HK.out]
          exact ⟨by simp [putQ, ByteArray.append_assoc], HB.out⟩
        · have HQ := Lib.hid (HY2.out HK.out he)
          have t1 := strEmpty_no he
          clear he
          go_enter Tryd.func8, Tryd.ntmps8
          go_wp2_with fail
          rw [← HW.out]
          go_quiet ((first | (go_at_call 19; exact Calls.quiet_of_same (h1.out _)) | (go_at_call 19; exact Calls.quiet_of_same (h2.out _))))
          generalize hVV : W.drewN nq = V at *
          have HBV : Hid (Below w.heap.size w V) := by show Below _ _ _; rw [← hVV]; exact HBW.out.trans (belowN_drewN _ _ _)
          have hIV : IdBlk w.heap.size pub sys V := by rw [← hVV]; exact HIB.out
          clear hVV i0 i1 j0 j1
          obtain ⟨i0, i1, j0, j1⟩ := hIV.cells
          go_wp2_with fail
          refine (h3.out _ HBV.out).mono ?_
          rintro e w2 ⟨rfl, hB2⟩
          have HB := Lib.hid (HBV.out.trans (((bytesWorld_below V pub).trans (hB2.mono (bytesWorld_below V pub).size)).mono HBV.out.size))
          have hI2 := hIV.below ((bytesWorld_below V pub).trans (hB2.mono (bytesWorld_below V pub).size))
          clear hB2 i0 i1 j0 j1 hIV
          obtain ⟨i0, i1, j0, j1⟩ := hI2.cells
          clear hI2
          go_wp2
          go_ret2
          rw [HQ.out, HK.out]
          exact ⟨by simp [putQ, ByteArray.append_assoc], HB.out⟩
      | false =>
        have HK : Hid (ok = false) := by show _ = _; rw [HOK.out]; rfl
        go_enter Tryd.func8, Tryd.ntmps8
        go_wp2_with fail
        rw [← HW.out]
        go_quiet ((first | (go_at_call 19; exact Calls.quiet_of_same (h1.out _)) | (go_at_call 19; exact Calls.quiet_of_same (h2.out _))))
        generalize hVV : W.drewN nq = V at *
        have HBV : Hid (Below w.heap.size w V) := by show Below _ _ _; rw [← hVV]; exact HBW.out.trans (belowN_drewN _ _ _)
        have hIV : IdBlk w.heap.size pub sys V := by rw [← hVV]; exact HIB.out
        clear hVV i0 i1 j0 j1
        obtain ⟨i0, i1, j0, j1⟩ := hIV.cells
        go_wp2_with fail
        refine (h3.out _ HBV.out).mono ?_
        rintro e w2 ⟨rfl, hB2⟩
        have HB := Lib.hid (HBV.out.trans (((bytesWorld_below V pub).trans (hB2.mono (bytesWorld_below V pub).size)).mono HBV.out.size))
        have hI2 := hIV.below ((bytesWorld_below V pub).trans (hB2.mono (bytesWorld_below V pub).size))
        clear hB2 i0 i1 j0 j1 hIV
        obtain ⟨i0, i1, j0, j1⟩ := hI2.cells
        clear hI2
        go_wp2
        go_ret2
        rw [HN.out HK.out, HK.out]
        exact ⟨rfl, HB.out⟩
    | false =>
      cases p with
      | true =>
        have HK : Hid (ok = true) := by show _ = _; rw [HOK.out]; rfl
        by_cases he : pub = ⟨#[]⟩
        · have HQ := Lib.hid (HY1.out HK.out he)
          have t1 : (pub.toList == []) = true := by rw [he, ByteArray.toList_eq]; rfl
          clear he
          go_enter Tryd.func8, Tryd.ntmps8
          go_wp2_with fail
          rw [← HW.out]
          go_quiet ((first | (go_at_call 19; exact Calls.quiet_of_same (h1.out _)) | (go_at_call 19; exact Calls.quiet_of_same (h2.out _))))
          generalize hVV : W.drewN nq = V at *
          have HBV : Hid (Below w.heap.size w V) := by show Below _ _ _; rw [← hVV]; exact HBW.out.trans (belowN_drewN _ _ _)
          have hIV : IdBlk w.heap.size pub sys V := by rw [← hVV]; exact HIB.out
          clear hVV i0 i1 j0 j1
          obtain ⟨i0, i1, j0, j1⟩ := hIV.cells
          go_wp2_with fail
          refine (h3.out _ HBV.out).mono ?_
          rintro e w2 ⟨rfl, hB2⟩
          have HB := Lib.hid (HBV.out.trans (((bytesWorld_below V pub).trans (hB2.mono (bytesWorld_below V pub).size)).mono HBV.out.size))
          have hI2 := hIV.below ((bytesWorld_below V pub).trans (hB2.mono (bytesWorld_below V pub).size))
          clear hB2 i0 i1 j0 j1 hIV
          obtain ⟨i0, i1, j0, j1⟩ := hI2.cells
          clear hI2
          go_wp2
          go_ret2
          rw [HQ.out, HK.out]
          exact ⟨by simp [putQ, ByteArray.append_assoc], HB.out⟩
        · have HQ := Lib.hid (HY2.out HK.out he)
          have t1 := strEmpty_no he
          clear he
          go_enter Tryd.func8, Tryd.ntmps8
          go_wp2_with fail
          rw [← HW.out]
          go_quiet ((first | (go_at_call 19; exact Calls.quiet_of_same (h1.out _)) | (go_at_call 19; exact Calls.quiet_of_same (h2.out _))))
          generalize hVV : W.drewN nq = V at *
          have HBV : Hid (Below w.heap.size w V) := by show Below _ _ _; rw [← hVV]; exact HBW.out.trans (belowN_drewN _ _ _)
          have hIV : IdBlk w.heap.size pub sys V := by rw [← hVV]; exact HIB.out
          clear hVV i0 i1 j0 j1
          obtain ⟨i0, i1, j0, j1⟩ := hIV.cells
          go_wp2_with fail
          refine (h3.out _ HBV.out).mono ?_
          rintro e w2 ⟨rfl, hB2⟩
          have HB := Lib.hid (HBV.out.trans (((bytesWorld_below V pub).trans (hB2.mono (bytesWorld_below V pub).size)).mono HBV.out.size))
          have hI2 := hIV.below ((bytesWorld_below V pub).trans (hB2.mono (bytesWorld_below V pub).size))
          clear hB2 i0 i1 j0 j1 hIV
          obtain ⟨i0, i1, j0, j1⟩ := hI2.cells
          clear hI2
          go_wp2
          go_ret2
          rw [HQ.out, HK.out]
          exact ⟨by simp [putQ, ByteArray.append_assoc], HB.out⟩
      | false =>
        have HK : Hid (ok = false) := by show _ = _; rw [HOK.out]; rfl
        go_enter Tryd.func8, Tryd.ntmps8
        go_wp2_with fail
        rw [← HW.out]
        go_quiet ((first | (go_at_call 19; exact Calls.quiet_of_same (h1.out _)) | (go_at_call 19; exact Calls.quiet_of_same (h2.out _))))
        generalize hVV : W.drewN nq = V at *
        have HBV : Hid (Below w.heap.size w V) := by show Below _ _ _; rw [← hVV]; exact HBW.out.trans (belowN_drewN _ _ _)
        have hIV : IdBlk w.heap.size pub sys V := by rw [← hVV]; exact HIB.out
        clear hVV i0 i1 j0 j1
        obtain ⟨i0, i1, j0, j1⟩ := hIV.cells
        go_wp2_with fail
        refine (h3.out _ HBV.out).mono ?_
        rintro e w2 ⟨rfl, hB2⟩
        have HB := Lib.hid (HBV.out.trans (((bytesWorld_below V pub).trans (hB2.mono (bytesWorld_below V pub).size)).mono HBV.out.size))
        have hI2 := hIV.below ((bytesWorld_below V pub).trans (hB2.mono (bytesWorld_below V pub).size))
        clear hB2 i0 i1 j0 j1 hIV
        obtain ⟨i0, i1, j0, j1⟩ := hI2.cells
        clear hI2
        go_wp2
        go_ret2
        rw [HN.out HK.out, HK.out]
        exact ⟨rfl, HB.out⟩
end Go.Proofs.YtbklopnpehafpaaDoor
