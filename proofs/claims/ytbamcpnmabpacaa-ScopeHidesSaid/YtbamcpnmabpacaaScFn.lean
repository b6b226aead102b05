/- The contracts of scope's New, Len, Pop, bound, Find. Conditions: none. -/
import Derived.Test.YtbamcpnmabpacaaScM
import Derived.Deep.Cut
import Derived.Lib.SmallJoins
import Derived.RangeFuncRecord
import Derived.Deep.LoopGhost
namespace Go.Proofs.Ytbamcpnmabpacaa
open Go.RowKit
set_option linter.unusedVariables false
set_option linter.unusedSimpArgs false
def RetS (v : Value) (w : World) (e : Ending) (w' : World) : Prop := e = .returned v ∧ w = w'
def NewS (w : World) (e : Ending) (w' : World) : Prop := ∃ g, e = .returned (.pointer (some ⟨g, 0, none⟩)) ∧ ScAt w' w.heap.size g [] none ∧ Below w.heap.size w w'
theorem newS_any (w : World) : Calls Try.prog 17 #[] w (NewS w) := by
  have hh := World.alloc_heap_new w (.cells #[.pointer none, .int .i64 0] 46)
  have HH := Lib.hid hh
  have HB := Lib.hid ((Below.refl w.heap.size w).alloc (Nat.le_refl _) (.cells #[.pointer none, .int .i64 0] 46))
  clear hh
  go_enter Try.func17, Try.ntmps17
  go_wp2
  go_ret
  exact ⟨_, rfl, ⟨HH.out, Nat.le_refl _, rfl⟩, HB.out⟩
theorem lenS_any (base g : Nat) (fs : List (List Bd)) (p : Option Addr) (w : World) (h : ScAt w base g fs p) : Calls Try.prog 10 #[.pointer (some ⟨g, 0, none⟩)] w (RetS (.int .i64 fs.length) w) := by
  obtain ⟨c0, c1, -, -⟩ := h.c0
  clear h
  go_enter Try.func10, Try.ntmps10
  go_wp2
  go_ret
  exact ⟨rfl, rfl⟩
theorem lenS_nil (w : World) : Calls Try.prog 10 #[.pointer none] w (RetS (.int .i64 0) w) := by
  go_enter Try.func10, Try.ntmps10
  go_wp2
  go_ret
  exact ⟨rfl, rfl⟩
theorem popS_nil (w : World) : Calls Try.prog 14 #[.pointer none] w (RetS (.bool false) w) := by
  go_enter Try.func14, Try.ntmps14
  go_wp2
  go_ret
  exact ⟨rfl, rfl⟩
def PopS (base g : Nat) (f : List Bd) (fs : List (List Bd)) (w : World) (e : Ending) (w' : World) : Prop := e = .returned (.bool true) ∧ (∃ q, ScAt w' base g fs q) ∧ KeepS w w' g
theorem popS_none (base g : Nat) (w : World) (p : Option Addr) (h : ScAt w base g [] p) : Calls Try.prog 14 #[.pointer (some ⟨g, 0, none⟩)] w (RetS (.bool false) w) := by
  obtain ⟨c0, c1, -, -⟩ := h.c0
  obtain rfl : p = none := h.fr
  clear h
  go_enter Try.func14, Try.ntmps14
  go_wp2
  go_ret
  exact ⟨rfl, rfl⟩
theorem popS_any (base g : Nat) (f : List Bd) (fs : List (List Bd)) (p : Option Addr) (w : World) (h : ScAt w base g (f :: fs) p) (hn : fs.length ≤ 1048576) : Calls Try.prog 14 #[.pointer (some ⟨g, 0, none⟩)] w (PopS base g f fs w) := by
  obtain ⟨c0, c1, f0, f1⟩ := h.c0
  obtain ⟨b, A, c, q, rfl, hb, hh, ho, hf⟩ := h.fr
  have d1 : w.cell? ⟨b, 1, none⟩ = some (.pointer q) := by rw [Lib.cell_of_heap hh]; rfl
  have hne : ¬ b = g := fun e => by subst e; have h1 := h.blk; rw [hh] at h1; cases h1
  have hne2 : ¬ g = b := fun e => hne e.symm
  have H := Lib.hid h
  have HF := Lib.hid hf
  have hlen : (((f :: fs).length : Nat) : Int) = (fs.length : Int) + 1 := by simp
  rw [hlen] at c1
  have e1 : IntKind.i64.wrap ((fs.length : Int) + 1 - 1) = (fs.length : Int) := by rw [IntWalk.i64_in _ (by omega)]; omega
  have e2 : (fs.length : Int) + 1 - 1 = (fs.length : Int) := by omega
  clear h hh ho hf hb hlen
  go_enter Try.func14, Try.ntmps14
  go_wp2
  go_ret
  have hb1 := Go.Joins.block_setCell H.out.blk (.pointer q) (i := 0)
  have hb2 := Go.Joins.block_setCell hb1 (.int .i64 fs.length) (i := 1)
  refine ⟨rfl, ⟨q, ⟨hb2, H.out.gbase, FrAt.same H.out.blk (fun j _ hj => ?_) fs q HF.out⟩⟩, ((KeepS.of_below (Below.refl _ _) g).set).set⟩
  rw [Below.heap_setCell _ _ _ _ hj, Below.heap_setCell _ _ _ _ hj]
def lastB (f : List Bd) (x : ByteArray) : Option Bd := f.reverse.find? fun b => decide (b.p = x)
def boundF : List (List Bd) → ByteArray → Option Bd
  | [], _ => none
  | f :: fs, x => (lastB f x).or (boundF fs x)
theorem last_none {f : List Bd} {x : ByteArray} (h : ∀ b ∈ f, ¬ b.p = x) : lastB f x = none := by
  unfold lastB
  rw [List.find?_eq_none]
  intro b hb
  simpa using h b (List.mem_reverse.1 hb)
theorem last_at {f : List Bd} {x : ByteArray} {j : Nat} {b : Bd} (hb : f[j]? = some b) (hx : b.p = x) (h : ∀ y ∈ f.drop (j + 1), ¬ y.p = x) : lastB f x = some b := by
  obtain ⟨hj, he⟩ := List.getElem?_eq_some_iff.1 hb
  have e : f = f.take j ++ b :: f.drop (j + 1) := by rw [← he, ← List.drop_eq_getElem_cons hj, List.take_append_drop]
  have h1 : (List.drop (j + 1) f).reverse.find? (fun b => decide (b.p = x)) = none := by
    rw [List.find?_eq_none]
    intro y hy
    simpa using h y (List.mem_reverse.1 hy)
  unfold lastB
  rw [e, List.reverse_append, List.reverse_cons, List.append_assoc, List.find?_append, h1]
  simp [hx]
theorem str_noS {a b : ByteArray} (h : ¬ a = b) : (a.toList == b.toList) = false := by
  cases hb : (a.toList == b.toList) with
  | false => rfl
  | true => exact absurd (ByteArray.ext (by have := eq_of_beq hb; simpa [ByteArray.toList_eq] using this)) h
set_option maxRecDepth 100000 in
set_option maxHeartbeats 2000000 in
theorem bound_any (base g : Nat) (fs : List (List Bd)) (p : Option Addr) (x : ByteArray) (w : World) (h : ScAt w base g fs p) (hn : ∀ f ∈ fs, f.length ≤ 1048576) : Calls Try.prog 18 #[.pointer (some ⟨g, 0, none⟩), .string x] w (RetS (.tuple #[.string (((boundF fs x).map Bd.s).getD ⟨#[]⟩), .bool (boundF fs x).isSome]) w) := by
  obtain ⟨c0, -, -, -⟩ := h.c0
  have HF := Lib.hid h.fr
  have HN := Lib.hid hn
  clear h hn
  go_enter Try.func18, Try.ntmps18
  go_wp2
  go_loopg [6, 7] fs.length (fun gk v6 v7 wr => ∃ (gs : List (List Bd)) (q : Option Addr), gs.length = gk ∧ v6 = .pointer q ∧ Hid (FrAt w base q gs) ∧ Hid (boundF fs x = boundF gs x) ∧ Hid (∀ f ∈ gs, f.length ≤ 1048576) ∧ wr = w)
  case atStart => exact ⟨fs, p, rfl, rfl, HF, Lib.hid rfl, HN, rfl⟩
  case round =>
    obtain ⟨gs, q, hgk, rfl, HQ, HE, HM, rfl⟩ := hrel
    obtain ⟨go, hgo⟩ : ∃ go, go = gk := ⟨_, rfl⟩
    rw [← hgo] at hgk
    cases gs with
    | nil =>
      obtain rfl : q = none := HQ.out
      have he : boundF fs x = none := HE.out
      go_wp2
      go_ret2
      rw [he]
      exact ⟨rfl, rfl⟩
    | cons f gs =>
      obtain ⟨b, A, c, q', rfl, hb, hh, ho, hf⟩ := HQ.out
      have d0 : wr.cell? ⟨b, 0, none⟩ = some (.slice A f.length c) := by rw [Lib.cell_of_heap hh]; rfl
      have d1 : wr.cell? ⟨b, 1, none⟩ = some (.pointer q') := by rw [Lib.cell_of_heap hh]; rfl
      have HB := Lib.hid (BdsAt.of_own ho)
      have HQ' := Lib.hid hf
      have hl := HM.out f (by simp)
      clear hh ho hf hb HQ
      go_wp2
      go_loopg [7] f.length (fun k v7 wr' => k ≤ f.length ∧ v7 = .int .i64 ((k : Int) - 1) ∧ Hid (∀ y ∈ f.drop k, ¬ y.p = x) ∧ wr' = wr)
      case atStart => exact ⟨Nat.le_refl _, by go_num, Lib.hid (by simp), rfl⟩
      case round =>
        obtain ⟨hk, rfl, HD, rfl⟩ := hrel
        cases hkk : gk with
        | zero =>
          subst hkk
          have b1 : ¬ (0 : Int) ≤ ((0 : Nat) : Int) - 1 := by omega
          have hno : lastB f x = none := last_none (by have := HD.out; simpa using this)
          have HE2 : Hid (boundF fs x = boundF gs x) := Lib.hid (by rw [HE.out]; show (lastB f x).or _ = _; rw [hno]; rfl)
          clear hno
          go_wp2
          go_roundg (go - 1)
          case measure => simp at hgk; omega
          case rel => exact ⟨gs, q', by simp at hgk; omega, rfl, HQ', HE2, Lib.hid (fun y hy => HM.out y (by simp [hy])), by first | rfl | trivial⟩
        | succ j =>
          subst hkk
          obtain ⟨a, y, rfl, hy, hyb, y0, y1⟩ := HB.out.2 j (by omega)
          have ej : ((j + 1 : Nat) : Int) - 1 = (j : Int) := by omega
          have b0 : (0 : Int) ≤ (j : Int) := by omega
          have b1 : (j : Int) < (f.length : Int) := by omega
          rw [ej]
          by_cases hyx : y.p = x
          · have he : boundF fs x = some y := by rw [HE.out]; show (lastB f x).or _ = _; rw [last_at hy hyx HD.out]; rfl
            have t1 : (y.p.toList == x.toList) = true := by rw [hyx]; simp
            have HX := Lib.hid he
            clear he hy
            go_wp2
            go_ret2
            rw [HX.out]
            exact ⟨rfl, rfl⟩
          · have t1 := str_noS hyx
            have HD2 : Hid (∀ z ∈ f.drop j, ¬ z.p = x) := Lib.hid (by
              obtain ⟨hj, he⟩ := List.getElem?_eq_some_iff.1 hy
              rw [List.drop_eq_getElem_cons hj, he]
              intro z hz
              rcases List.mem_cons.1 hz with e | e
              · subst e; exact hyx
              · exact HD.out z e)
            clear hy hyx
            go_wp2
            go_roundg j
            case measure => omega
            case rel => exact ⟨by omega, by go_num, HD2, by first | rfl | trivial⟩
theorem bound_nil (x : ByteArray) (w : World) : Calls Try.prog 18 #[.pointer none, .string x] w (RetS (.tuple #[.string ⟨#[]⟩, .bool false]) w) := by
  go_enter Try.func18, Try.ntmps18
  go_wp2
  go_ret2
  exact ⟨rfl, rfl⟩
def xmlB : ByteArray := ⟨#[120, 109, 108]⟩
def xmlnsB : ByteArray := ⟨#[120, 109, 108, 110, 115]⟩
def xmlU : ByteArray := ⟨#[104, 116, 116, 112, 58, 47, 47, 119, 119, 119, 46, 119, 51, 46, 111, 114, 103, 47, 88, 77, 76, 47, 49, 57, 57, 56, 47, 110, 97, 109, 101, 115, 112, 97, 99, 101]⟩
def xmlnsU : ByteArray := ⟨#[104, 116, 116, 112, 58, 47, 47, 119, 119, 119, 46, 119, 51, 46, 111, 114, 103, 47, 50, 48, 48, 48, 47, 120, 109, 108, 110, 115, 47]⟩
def ansF (m : ByteArray) (x : ByteArray) : ByteArray × Bool := if x = xmlB then (xmlU, true) else if x = xmlnsB then (xmlnsU, true) else (m, decide (x = ⟨#[]⟩) || !decide (m = ⟨#[]⟩))
def meanF (fs : List (List Bd)) (x : ByteArray) : ByteArray := ((boundF fs x).map Bd.s).getD ⟨#[]⟩
theorem eq_str (x y : ByteArray) : (x.toList == y.toList) = decide (x = y) := by
  by_cases h : x = y
  · subst h; simp
  · rw [str_noS h]; simp [h]
theorem find_gen (m : ByteArray) (b : Bool) (r : Option Addr) (x : ByteArray) (w : World) (hb : Calls Try.prog 18 #[.pointer r, .string x] w (RetS (.tuple #[.string m, .bool b]) w)) :
    Calls Try.prog 8 #[.pointer r, .string x] w (RetS (.tuple #[.string (ansF m x).1, .bool (ansF m x).2]) w) := by
  have HB := Lib.hid hb
  clear hb
  by_cases h1 : x = xmlB
  · subst h1
    have e : ansF m xmlB = (xmlU, true) := by unfold ansF; rw [if_pos rfl]
    rw [e]
    unfold xmlU xmlB
    go_enter Try.func8, Try.ntmps8
    go_wp2
    go_ret2
    exact ⟨rfl, rfl⟩
  · have t1 := str_noS h1
    by_cases h2 : x = xmlnsB
    · subst h2
      have e : ansF m xmlnsB = (xmlnsU, true) := by unfold ansF; rw [if_neg h1, if_pos rfl]
      rw [e]
      unfold xmlnsU xmlnsB
      go_enter Try.func8, Try.ntmps8
      go_wp2
      go_ret2
      exact ⟨rfl, rfl⟩
    · have t2 := str_noS h2
      have e : ansF m x = (m, decide (x = ⟨#[]⟩) || !decide (m = ⟨#[]⟩)) := by unfold ansF; rw [if_neg h1, if_neg h2]
      rw [e]
      rw [show xmlB.toList = [120, 109, 108] from by simp [xmlB, ByteArray.toList_eq]] at t1
      rw [show xmlnsB.toList = [120, 109, 108, 110, 115] from by simp [xmlnsB, ByteArray.toList_eq]] at t2
      by_cases h3 : x = ⟨#[]⟩
      · subst h3
        rw [decide_eq_true (rfl : (⟨#[]⟩ : ByteArray) = ⟨#[]⟩), Bool.true_or]
        clear h1 h2 e
        go_enter Try.func8, Try.ntmps8
        go_wp2_with fail
        refine HB.out.mono ?_
        rintro e w1 ⟨rfl, rfl⟩
        go_wp2
        go_ret2
        exact ⟨rfl, rfl⟩
      · have t3 := str_noS h3
        rw [show (⟨#[]⟩ : ByteArray).toList = [] from by simp [ByteArray.toList_eq]] at t3
        rw [decide_eq_false h3, Bool.false_or]
        by_cases h4 : m = ⟨#[]⟩
        · subst h4
          rw [decide_eq_true (rfl : (⟨#[]⟩ : ByteArray) = ⟨#[]⟩), Bool.not_true]
          clear h1 h2 e h3
          go_enter Try.func8, Try.ntmps8
          go_wp2_with fail
          refine HB.out.mono ?_
          rintro e w1 ⟨rfl, rfl⟩
          go_wp2
          go_ret2
          exact ⟨rfl, rfl⟩
        · have t4 := str_noS h4
          rw [show (⟨#[]⟩ : ByteArray).toList = [] from by simp [ByteArray.toList_eq]] at t4
          rw [decide_eq_false h4, Bool.not_false]
          clear h1 h2 e h3 h4
          go_enter Try.func8, Try.ntmps8
          go_wp2_with fail
          refine HB.out.mono ?_
          rintro e w1 ⟨rfl, rfl⟩
          go_wp2
          go_ret2
          exact ⟨rfl, rfl⟩
theorem find_any (base g : Nat) (fs : List (List Bd)) (p : Option Addr) (x : ByteArray) (w : World) (h : ScAt w base g fs p) (hn : ∀ f ∈ fs, f.length ≤ 1048576) : Calls Try.prog 8 #[.pointer (some ⟨g, 0, none⟩), .string x] w (RetS (.tuple #[.string (ansF (meanF fs x) x).1, .bool (ansF (meanF fs x) x).2]) w) :=
  find_gen _ _ _ x w (bound_any base g fs p x w h hn)
theorem find_nil (x : ByteArray) (w : World) : Calls Try.prog 8 #[.pointer none, .string x] w (RetS (.tuple #[.string (ansF ⟨#[]⟩ x).1, .bool (ansF ⟨#[]⟩ x).2]) w) :=
  find_gen _ _ _ x w (bound_nil x w)
end Go.Proofs.Ytbamcpnmabpacaa
