/- The contract of narthexref34.All. Conditions: at most 2^20 of each. -/
import Derived.Test.YtbamcpnmabpacaaScRFind
import Derived.Test.YtbamcpnmabpacaaScAll
import Derived.Deep.RegionHeld3
import Derived.Deep.CutRange
namespace Go.Proofs.Ytbamcpnmabpacaa
open Go.RowKit
set_option linter.unusedVariables false
set_option linter.unusedSimpArgs false
def ltP (a b : ByteArray) : Bool := Op.bytesLess a.toList b.toList
def atR (out : List Bd) (p : ByteArray) : Nat := (out.takeWhile fun b => ltP b.p p).length
def insR (out : List Bd) (p m : ByteArray) : List Bd := if (out[atR out p]?).map Bd.p = some p then out else out.take (atR out p) ++ ⟨p, m⟩ :: out.drop (atR out p)
def stepR (bs : List Bd) (out : List Bd) (b : Bd) : List Bd := if okP b = false ∨ spR b.p bs = ⟨#[]⟩ then out else insR out b.p (spR b.p bs)
def allR (bs : List Bd) (l : List Bd) : List Bd := l.foldl (stepR bs) []
theorem allR_snoc (bs l : List Bd) (b : Bd) : allR bs (l ++ [b]) = stepR bs (allR bs l) b := by unfold allR; rw [List.foldl_append]; rfl
theorem insR_len (out : List Bd) (p m : ByteArray) : (insR out p m).length ≤ out.length + 1 := by
  unfold insR
  split
  · omega
  · simp; omega
theorem rec_snocS {α : Type} {p : List α → Prop} (h0 : p []) (h1 : ∀ l a, p l → p (l ++ [a])) (l : List α) : p l := by
  have h : ∀ m : List α, p m.reverse := fun m => by
    induction m with
    | nil => exact h0
    | cons a m ih => rw [List.reverse_cons]; exact h1 _ _ ih
  have := h l.reverse
  rwa [List.reverse_reverse] at this
theorem allR_len (bs l : List Bd) : (allR bs l).length ≤ l.length := by
  refine rec_snocS (p := fun l => (allR bs l).length ≤ l.length) (by simp [allR]) (fun l b ih => ?_) l
  rw [allR_snoc, List.length_append]
  unfold stepR
  split
  · simp only [List.length_cons, List.length_nil]; omega
  · have := insR_len (allR bs l) b.p (spR b.p bs); simp only [List.length_cons, List.length_nil]; omega
theorem atR_is {out : List Bd} {p : ByteArray} {j : Nat} (h : ∀ b ∈ out.take j, ltP b.p p = true) (hj : j ≤ out.length) (he : j = out.length ∨ ∃ b, out[j]? = some b ∧ ltP b.p p = false) : atR out p = j := by
  unfold atR
  have e : out = out.take j ++ out.drop j := (List.take_append_drop j out).symm
  rw [e, List.takeWhile_append_of_pos h]
  rw [List.length_append, List.length_take]
  rcases he with he | ⟨b, hb, hl⟩
  · rw [List.drop_eq_nil_of_le (by omega)]; simp; omega
  · obtain ⟨hlt, hg⟩ := List.getElem?_eq_some_iff.1 hb
    rw [List.drop_eq_getElem_cons hlt, hg]
    simp [List.takeWhile_cons, hl]; omega
theorem atR_le (out : List Bd) (p : ByteArray) : atR out p ≤ out.length := by unfold atR; exact (List.takeWhile_prefix _).length_le
theorem Try.infoBdR : (Try.prog.info? 38).map (fun i => (i.zero, i.size, i.bytes)) = some (some (.agg #[.string ByteArray.empty, .string ByteArray.empty]), 2, 32) := by kernel_rfl
theorem below_drewS (B : Nat) (w : World) : Below B w w.drew := (Below.refl B w).trans ⟨rfl, rfl, rfl, Nat.le_refl _, fun _ _ => rfl⟩
theorem srcGrown {w w' : World} {A : Option Addr} {m c : Nat} {news : List Value} {row : Option Nat} (h : Source w A m c news) (hg : w.grownBy w' row) (hA : ∀ ad, A = some ad → some ad.block ≠ row) : Source w' A m c news :=
  ⟨h.1, fun ad e j u hj => hg.cell (h.2 ad e j u hj) (by rw [addBlockS]; exact hA ad e)⟩
theorem own_addr {w : World} {base n c size : Nat} {e : TypeId} {A : Option Addr} {xs : List Value} (h : w.ownsRow base e size (.slice A n c) n xs) {ad : Addr} (hA : A = some ad) : ad.block < w.heap.size := by
  subst hA; exact (h.lt _ rfl).2
theorem own_none {w : World} {base n c size : Nat} {e : TypeId} {xs : List Value} (h : w.ownsRow base e size (.slice none n c) n xs) : n = 0 := by
  rcases h.2 with ⟨_, h2⟩ | ⟨g, cap, cur, hv, _⟩
  · exact h2
  · cases hv
theorem bd_take (l : List Bd) (j : Nat) : bdCells (l.take j) = (bdCells l).take (j * 2) := by
  induction l generalizing j with
  | nil => simp [bdCells]
  | cons x l ih =>
    cases j with
    | zero => simp [bdCells]
    | succ j =>
      have e : (j + 1) * 2 = j * 2 + 1 + 1 := by omega
      have h := ih j
      simp only [bdCells] at h ⊢
      rw [e]
      simp [h]
theorem bd_drop (l : List Bd) (j : Nat) : bdCells (l.drop j) = (bdCells l).drop (j * 2) := by
  induction l generalizing j with
  | nil => simp [bdCells]
  | cons x l ih =>
    cases j with
    | zero => simp [bdCells]
    | succ j =>
      have e : (j + 1) * 2 = j * 2 + 1 + 1 := by omega
      have h := ih j
      simp only [bdCells] at h ⊢
      rw [e]
      simp [h]
theorem srcTake {w : World} {base n c j : Nat} {e : TypeId} {A : Option Addr} {l : List Bd} (h : w.ownsRow base e 2 (.slice A n c) n (bdCells l)) (hj : j ≤ n) : Source w.drew A j c (bdCells (l.take j)) := by
  have hs := Source.of_own h
  refine ⟨fun e => ⟨by have := (hs.1 e).1; omega, (hs.1 e).2⟩, fun ad hA i u hi => ?_⟩
  rw [bd_take] at hi
  exact hs.2 ad hA i u (by
    have hlt := (List.getElem?_eq_some_iff.1 hi).1
    rw [List.length_take] at hlt
    rw [List.getElem?_take_of_lt (by omega)] at hi
    exact hi)
theorem srcDrop {w : World} {base n c j : Nat} {e : TypeId} {a : Addr} {l : List Bd} (h : w.ownsRow base e 2 (.slice (some a) n c) n (bdCells l)) (hj : j ≤ n) : Source w.drew (some (a.add (j * 2))) (n - j) (c - j) (bdCells (l.drop j)) := by
  have hs := Source.of_own h
  refine ⟨fun e => (by cases e), fun ad hA i u hi => ?_⟩
  cases hA
  rw [bd_drop, List.getElem?_drop] at hi
  have := hs.2 a rfl (j * 2 + i) u hi
  have e2 : (a.add (j * 2)).add i = a.add (j * 2 + i) := by
    unfold Addr.add
    by_cases h1 : j * 2 = 0
    · simp [h1]
    · by_cases h2 : i = 0
      · subst h2; simp
      · simp [h1, h2]; omega
  rw [e2]
  exact this
theorem srcEnd (w : World) (a : Addr) (m c : Nat) (l : List Bd) : Source w (some a) m c (bdCells (l.drop l.length)) := by
  refine ⟨fun e => (by cases e), fun ad hA i u hi => ?_⟩
  rw [List.drop_length] at hi
  simp [bdCells] at hi
theorem srcDropN {w : World} {base n c : Nat} {e : TypeId} {l : List Bd} (h : w.ownsRow base e 2 (.slice none n c) n (bdCells l)) : Source w.drew none 0 0 (bdCells (l.drop 0)) := by
  exact ⟨fun _ => ⟨rfl, rfl⟩, fun ad hA => by cases hA⟩
theorem insOwn {w : World} {base : Nat} {e : TypeId} {v : Value} {out : List Bd} {j m2 : Nat} {p m : ByteArray} (hm : m2 = out.length - j) (h : w.ownsRow base e 2 v (0 + j + 1 + m2) ([] ++ bdCells (out.take j) ++ [.string p, .string m] ++ bdCells (out.drop j))) (hj : j ≤ out.length) :
    w.ownsRow base e 2 v (out.take j ++ ⟨p, m⟩ :: out.drop j).length (bdCells (out.take j ++ ⟨p, m⟩ :: out.drop j)) := by
  have e1 : (out.take j ++ ⟨p, m⟩ :: out.drop j).length = 0 + j + 1 + (out.length - j) := by simp; omega
  have e2 : bdCells (out.take j ++ ⟨p, m⟩ :: out.drop j) = [] ++ bdCells (out.take j) ++ [.string p, .string m] ++ bdCells (out.drop j) := by simp [bdCells]
  rw [e1, e2, ← hm]; exact h
theorem stepS {P : Program} {ops : Array Oper} {o : Oper} {a : Act} {w : World} {K : Act → World → Prop} {Q : Exit → Act → World → Prop} {E : Prop}
    (hg : Region.wanted o (yielded ops a.tmps) = true) (s x : Operand) (t : TypeId) (hop : o.op = Op.call { callee := Callee.builtin Builtin.append, args := #[s, x], argTypes := #[t, t] })
    (base : Nat) (e : TypeId) (i : TypeInfo) (z : Value) (size bytes : Nat) (h1 : P.underlying t = some (.slice e)) (h2 : P.info? e = some i) (h3 : i.zero = some z) (h4 : i.size = size) (h5 : i.bytes = bytes) (h6 : z.cells.size = size) (hsz : 0 < size)
    (v : Value) (n : Nat) (xs : List Value) (hs : a.eval s = v) (hown : w.ownsRow base e size v n xs)
    (A : Option Addr) (m c : Nat) (news : List Value) (hx : a.eval x = .slice A m c) (hn : news.length = m * size) (hc : Source w A m c news) (h1c : ∀ u ∈ news, u.oneCell' = true)
    (b1 : n + m ≤ maxLen) (b2 : (n + m) * bytes ≤ 140737488355328) (hb : base ≤ w.heap.size)
    (hK : ∀ v' w', w'.ownsRow base e size v' (n + m) (xs ++ news) → w.grownBy w' v.ownBlock → (v'.ownBlock = v.ownBlock ∨ v'.ownBlock = some w.heap.size) → K (a.put o.dst v') w') :
    if Region.wanted o (yielded ops a.tmps) = true then Oper.wp P o a w K Q else E := by
  rw [if_pos hg]
  cases A with
  | none =>
    obtain ⟨rfl, rfl⟩ := hc.1 rfl
    obtain rfl : news = [] := List.eq_nil_of_length_eq_zero (by rw [hn]; omega)
    have hrun := run_append_owned_none (P := P) (w := w) base t o.type e i size h1 h2 v n xs hown
    unfold Oper.wp
    simp [execOp, hop, resolve, invoke, builtin, hs, hx, hrun, Result.andThen]
    exact hK v w (by simpa using hown) (grown_refl _ _) (.inl rfl)
  | some ad =>
    obtain ⟨v', w', hrun, r1, r2, _, r3⟩ := run_append_own_at (P := P) (w := w) base t o.type e i z size bytes h1 h2 h3 h4 h5 h6 hsz v n xs hown ad m c news hn (hc.2 ad rfl) h1c b1 b2 hb
    unfold Oper.wp
    simp [execOp, hop, resolve, invoke, builtin, hs, hx, hrun, Result.andThen]
    exact hK v' w' r1 r2 r3
theorem ans_ok {x m : ByteArray} (h : okP ⟨x, m⟩ = true) : (ansF m x).1 = m := by
  unfold okP at h
  simp at h
  unfold ansF
  rw [if_neg h.1, if_neg h.2]
theorem okP_p (b : Bd) (m : ByteArray) : okP b = okP ⟨b.p, m⟩ := rfl
theorem stepR_skip {bs out : List Bd} {y : Bd} {m : ByteArray} {ok : Bool} (h : true = (!okP y || decide (m = ⟨#[]⟩))) (hm : (m, ok) = ansF (spR y.p bs) y.p) : stepR bs out y = out := by
  unfold stepR
  refine if_pos ?_
  cases hk : okP y with
  | false => exact .inl rfl
  | true =>
    rw [hk] at h
    simp at h
    have := ans_ok (x := y.p) (m := spR y.p bs) (by rw [← okP_p]; exact hk)
    rw [← hm] at this
    exact .inr (this.symm.trans h)
theorem stepR_go {bs : List Bd} {y : Bd} {m : ByteArray} {ok : Bool} (h : false = (!okP y || decide (m = ⟨#[]⟩))) (hm : (m, ok) = ansF (spR y.p bs) y.p) : okP y = true ∧ ¬ m = ⟨#[]⟩ ∧ m = spR y.p bs := by
  have h := h.symm
  simp at h
  have := ans_ok (x := y.p) (m := spR y.p bs) (by rw [← okP_p]; exact h.1)
  rw [← hm] at this
  exact ⟨h.1, h.2, this⟩
set_option maxRecDepth 100000 in
set_option maxHeartbeats 4000000 in
theorem rall_any (A : Option Addr) (n c : Nat) (ls : List (List Bd)) (w : World) (h : RowsAt w A n ls) (hn : n ≤ 1048576) (hs : ls.flatten.length ≤ 1048576) :
    Calls Try.prog 13 #[.slice A n c] w (fun e w' => ∃ R c', e = .returned (.slice R (allR ls.flatten ls.flatten).length c') ∧ w'.ownsRow w.heap.size 38 2 (.slice R (allR ls.flatten ls.flatten).length c') (allR ls.flatten ls.flatten).length (bdCells (allR ls.flatten ls.flatten)) ∧ Below w.heap.size w w') := by
  obtain ⟨j0, hj0, hy0, hy1, hy2⟩ := info_partsS Try.infoBdR
  have HR := Lib.hid h
  have hs1 : ∀ f ∈ ls, f.length ≤ 1048576 := fun f hf => by
    refine Nat.le_trans ?_ hs
    rw [List.length_flatten]
    exact le_sum hf
  have HS := Lib.hid hs
  have CF := Lib.hid (fun (V : World) (x : ByteArray) (hb : Below w.heap.size w V) => rfind_any A n c ls x V (h.below hb) hn hs1)
  have HS1 := Lib.hid hs1
  clear h hs hs1
  generalize hbs : ls.flatten = bs at *
  have HBS := Lib.hid hbs
  clear hbs
  go_enter Try.func13, Try.ntmps13
  go_wp2
  go_loopw [3, 4] (fun v3 v4 wr => ∃ i : Nat, i ≤ n ∧ v4 = .int .i64 i ∧ Hid (wr.ownsRow w.heap.size 38 2 v3 (allR bs (ls.take i).flatten).length (bdCells (allR bs (ls.take i).flatten))) ∧ Hid (Below w.heap.size w wr)) (fun _ v4 _ => n - (intOf v4).toNat)
  case atStart => exact ⟨0, Nat.zero_le _, rfl, Lib.hid (World.ownsRow_nil _ _ _ _), Lib.hid (Below.refl _ _)⟩
  case round =>
    obtain ⟨i, hi, rfl, HO, HB⟩ := hrel
    by_cases hlt : i < n
    · obtain ⟨a, f, B, cf, rfl, hf, hab, hc, hB, -⟩ := (HR.out.below HB.out).2 i hlt
      have b0 : (0 : Int) ≤ (i : Int) := by omega
      have b1 : (i : Int) < (n : Int) := by omega
      have HC : Hid (∀ V, Below w.heap.size w V → V.cell? (a.add i) = some (.slice B f.length cf) ∧ BdsAt V B f.length f) := Lib.hid (fun V hb => by
        obtain ⟨a', f', B', cf', e1, hf', _, hc', hB', _⟩ := (HR.out.below hb).2 i hlt
        injection e1 with e1
        subst e1
        obtain ⟨a3, f3, B3, cf3, e3, hf3, hab3, hc3, hB3, _⟩ := HR.out.2 i hlt
        injection e3 with e3
        subst e3
        have k1 := (hb.cell (p := a.add i) (by rw [addBlockS]; exact hab3)).trans hc3
        have k2 := (HB.out.cell (p := a.add i) (by rw [addBlockS]; exact hab3)).trans hc3
        rw [hc] at k2
        rw [hf3] at hf
        injection hf with hf
        subst hf
        injection k2 with k2
        injection k2 with k2 k3 k4
        subst k2 k4
        exact ⟨k1, hB3.below hb⟩)
      have HF : Hid ((ls.take (i + 1)).flatten = (ls.take i).flatten ++ f) := Lib.hid (by rw [List.take_add_one, hf]; simp)
      have HLN : Hid ((ls.take i).flatten.length + f.length ≤ 1048576) := Lib.hid (by
        have h1 := HS.out
        have h2 : (ls.take (i + 1)).flatten.length ≤ ls.flatten.length := by
          conv => rhs; rw [← List.take_append_drop (i + 1) ls, List.flatten_append, List.length_append]
          omega
        rw [HF.out, List.length_append, HBS.out] at h2
        omega)
      obtain ⟨pre, hpre⟩ : ∃ pre, pre = (ls.take i).flatten := ⟨_, rfl⟩
      rw [← hpre] at HF HLN HO
      clear hf hB hpre hc
      go_wp2
      go_loopw [3, 5] (fun v3 v5 wx => ∃ k : Nat, k ≤ f.length ∧ v5 = .int .i64 k ∧ Hid (wx.ownsRow w.heap.size 38 2 v3 (allR bs (pre ++ f.take k)).length (bdCells (allR bs (pre ++ f.take k)))) ∧ Hid (Below w.heap.size w wx)) (fun _ v5 _ => f.length - (intOf v5).toNat)
      case atStart => exact ⟨0, Nat.zero_le _, rfl, by simpa using HO, HB⟩
      case round =>
        obtain ⟨k, hk, rfl, HO2, HB2⟩ := hrel
        obtain ⟨A3, c3, rfl, hc31, hc32, hc33⟩ := ownS_shape HO2.out
        obtain ⟨hc, hBf⟩ := HC.out _ HB2.out
        by_cases hltk : k < f.length
        · obtain ⟨a2, y, rfl, hy, hyb, y0, y1⟩ := hBf.2 k hltk
          have d0 : (0 : Int) ≤ (k : Int) := by omega
          have d1 : (k : Int) < (f.length : Int) := by omega
          have HY : Hid (allR bs (pre ++ f.take (k + 1)) = stepR bs (allR bs (pre ++ f.take k)) y) := Lib.hid (by rw [List.take_add_one, hy]; simp only [Option.toList_some]; rw [← List.append_assoc, allR_snoc])
          have hol := allR_len bs (pre ++ f.take k)
          have hol2 : (allR bs (pre ++ f.take k)).length ≤ 1048576 := by have := HLN.out; rw [List.length_append, List.length_take] at hol; omega
          have CF2 := CF.out wr y.p HB2.out
          obtain ⟨⟨m, ok⟩, hm⟩ : ∃ t, t = ansF (spR y.p bs) y.p := ⟨_, rfl⟩
          rw [← hm] at CF2
          have HM := Lib.hid hm
          have CF2 := Lib.hid CF2
          have hfl : f.length ≤ 1048576 := by have := HLN.out; omega
          clear hy hol hm hBf
          generalize allR bs (pre ++ f.take k) = out at *
          go_wp2_with fail
          refine CF2.out.mono ?_
          rintro e w5 ⟨rfl, rfl⟩
          obtain ⟨th, hth⟩ : ∃ th, th = (!okP y || decide (m = ⟨#[]⟩)) := ⟨_, rfl⟩
          have HTH := Lib.hid hth
          clear hth
          go_upto_region 10 with (fail)
          go_cut [9, 10] from 18 to 95 (fun v9 v10 wx => v9 = .int .i64 0 ∧ v10 = .bool th ∧ wx = wr)
          case first =>
            by_cases h1 : y.p = xmlB
            · have t1 : (y.p.toList == [120, 109, 108]) = true := by rw [h1]; simp [xmlB, ByteArray.toList_eq]
              have e1 : th = true := by rw [HTH.out]; unfold okP; simp [h1]
              clear h1
              go_wp2
              go_meet
              case rel => exact ⟨rfl, by rw [e1], rfl⟩
            · have t1 := str_noS h1
              rw [show xmlB.toList = [120, 109, 108] from by simp [xmlB, ByteArray.toList_eq]] at t1
              by_cases h2 : y.p = xmlnsB
              · have t2 : (y.p.toList == [120, 109, 108, 110, 115]) = true := by rw [h2]; simp [xmlnsB, ByteArray.toList_eq]
                have e1 : th = true := by rw [HTH.out]; unfold okP; simp [h2]
                clear h1 h2
                go_wp2
                go_meet
                case rel => exact ⟨rfl, by rw [e1], rfl⟩
              · have t2 := str_noS h2
                rw [show xmlnsB.toList = [120, 109, 108, 110, 115] from by simp [xmlnsB, ByteArray.toList_eq]] at t2
                have hok : okP y = true := by unfold okP; simp [h1, h2]
                by_cases h3 : m = ⟨#[]⟩
                · have t3 : (m.toList == []) = true := by rw [h3]; simp [ByteArray.toList_eq]
                  have e1 : th = true := by rw [HTH.out, hok]; simp [h3]
                  clear h1 h2 hok h3
                  go_wp2
                  go_meet
                  case rel => exact ⟨rfl, by rw [e1], rfl⟩
                · have t3 := str_noS h3
                  rw [show (⟨#[]⟩ : ByteArray).toList = [] from by simp [ByteArray.toList_eq]] at t3
                  have e1 : th = false := by rw [HTH.out, hok]; simp [h3]
                  clear h1 h2 hok h3
                  go_wp2
                  go_meet
                  case rel => exact ⟨rfl, by rw [e1], rfl⟩
          case rest =>
            obtain ⟨rfl, rfl, rfl⟩ := hcut
            have HOB := Lib.hid (BdsAt.of_own HO2.out)
            go_wp2
            go_loopw [9] (fun v9 wx => ∃ j : Nat, j ≤ out.length ∧ v9 = .int .i64 j ∧ Hid (∀ b ∈ out.take j, ltP b.p y.p = true) ∧ wx = wc) (fun v9 _ => out.length - (intOf v9).toNat)
            case atStart => exact ⟨0, Nat.zero_le _, rfl, Lib.hid (by intro b hb; simp at hb), rfl⟩
            case round =>
              obtain ⟨j, hj, rfl, HLT, rfl⟩ := hrel
              by_cases hltj : j < out.length
              · obtain ⟨a4, z, rfl, hz, hzb, z0, z1⟩ := HOB.out.2 j hltj
                have e0 : (0 : Int) ≤ (j : Int) := by omega
                have e1 : (j : Int) < (out.length : Int) := by omega
                cases hl : ltP z.p y.p with
                | true =>
                  have t5 : Op.bytesLess z.p.toList y.p.toList = true := hl
                  have HLT2 : Hid (∀ b ∈ out.take (j + 1), ltP b.p y.p = true) := Lib.hid (fun b hb => by
                    rw [List.take_add_one, hz] at hb
                    rcases List.mem_append.1 hb with hb | hb
                    · exact HLT.out b hb
                    · obtain rfl : b = z := by simpa using hb
                      exact hl)
                  clear hz hl
                  go_wp2
                  go_roundw
                  case rel => exact ⟨j + 1, by omega, by go_num, HLT2, by first | rfl | trivial⟩
                  case measure => simp [intOf]; omega
                | false =>
                  have t5 : Op.bytesLess z.p.toList y.p.toList = false := hl
                  have hat := atR_is HLT.out (by omega) (.inr ⟨z, hz, hl⟩)
                  have HAT := Lib.hid hat
                  cases th with
                  | true =>
                    have HST : Hid (allR bs (pre ++ f.take (k + 1)) = out) := Lib.hid (by rw [HY.out]; exact stepR_skip HTH.out HM.out)
                    have HO3 : Hid (wr.ownsRow w.heap.size 38 2 (.slice (some a4) out.length c3) (allR bs (pre ++ f.take (k + 1))).length (bdCells (allR bs (pre ++ f.take (k + 1))))) := Lib.hid (by rw [HST.out]; exact HO2.out)
                    clear hz hl hat
                    go_wp2
                    go_roundw
                    case rel => exact ⟨k + 1, by omega, by go_num, HO3, HB2⟩
                    case measure => simp [intOf]; omega
                  | false =>
                    obtain ⟨hok, hme, hms⟩ := stepR_go HTH.out HM.out
                    by_cases hzy : z.p = y.p
                    · have t6 : (z.p.toList == y.p.toList) = true := by rw [hzy]; simp
                      have HST : Hid (allR bs (pre ++ f.take (k + 1)) = out) := Lib.hid (by
                        rw [HY.out]; unfold stepR; rw [if_neg (by rw [hok]; simp; rw [← hms]; exact hme)]
                        unfold insR; rw [hat, hz]; simp [hzy])
                      have HO3 : Hid (wr.ownsRow w.heap.size 38 2 (.slice (some a4) out.length c3) (allR bs (pre ++ f.take (k + 1))).length (bdCells (allR bs (pre ++ f.take (k + 1))))) := Lib.hid (by rw [HST.out]; exact HO2.out)
                      clear hz hl hat hok hme hms hzy
                      go_wp2
                      go_roundw
                      case rel => exact ⟨k + 1, by omega, by go_num, HO3, HB2⟩
                      case measure => simp [intOf]; omega
                    · have t6 := str_noS hzy
                      have HST : Hid (allR bs (pre ++ f.take (k + 1)) = out.take j ++ ⟨y.p, m⟩ :: out.drop j) := Lib.hid (by
                        rw [HY.out]; unfold stepR; rw [if_neg (by rw [hok]; simp; rw [← hms]; exact hme)]
                        unfold insR; rw [hat, hz, if_neg (by simpa using hzy), ← hms])
                      clear hz hl hat hok hme hms hzy
                      have hjc : j ≤ c3 := by omega
                      have hjn : ¬ c3 = j := by omega
                      have hjl : j ≤ out.length := by omega
                      --R15 j ; some a4 ; some (a4.add (j * 2)) ; srcDrop HO2.out (by omega) ; c3 ; out.length - j ; c3 - j
                      have HBV := Lib.hid (HB2.out.trans (below_drewS wr.heap.size wr |>.mono HB2.out.size))
                      have SA : Hid (Source wr.drew (some a4) j c3 (bdCells (out.take j))) := Lib.hid (srcTake HO2.out (by omega))
                      have SB : Hid (Source wr.drew (some (a4.add (j * 2))) (out.length - j) (c3 - j) (bdCells (out.drop j))) := Lib.hid (srcDrop HO2.out (by omega))
                      have LA : Hid (∀ ad : Addr, (some a4 : Option Addr) = some ad → ad.block < wr.drew.heap.size) := Lib.hid (fun ad hA => own_addr HO2.out hA)
                      have LB : Hid (∀ ad : Addr, (some (a4.add (j * 2)) : Option Addr) = some ad → ad.block < wr.drew.heap.size) := Lib.hid (fun ad hA => by first | exact own_addr HO2.out hA | (cases hA; done) | (cases hA; rw [addBlockS]; exact own_addr HO2.out rfl))
                      have LT4 : Hid ((bdCells (out.take j)).length = j * 2) := Lib.hid (by rw [bdCells_len, List.length_take]; omega)
                      have LT13 : Hid ((bdCells (out.drop j)).length = (out.length - j) * 2) := Lib.hid (by rw [bdCells_len, List.length_drop]; try omega)
                      go_wp2_with fail
                      refine wp_region_held_drew (S := fun _ => True) (by kernel_rfl) trivial (fun hHeld => ?_)
                      generalize wr.drew = V0 at *
                      have D := Lib.hid (Below.refl V0.heap.size V0)
                      --TAKES narthex/narthexref34.All:15 0..3 5..7 10..12
                      refine wpAnyH_take (i := 0) (oi := ({ dst := some 82, op := Op.move (Operand.tmp 11), type := 34, pos := "ref.go:46", after := #[], guard := none } : Oper)) (v := ?_) rfl (by kernel_rfl) (by kernel_rfl) (by kernel_rfl) (fun _ _ _ h => h) (Or.inl ⟨by rfl, ?_⟩) (by assumption) ?_
                      rotate_left 1
                      · intro w hSw; (try dsimp only at hSw); go_simp; try with_reducible rfl
                      (try simp only [Act.put, List.setIfInBounds_toArray, List.set_cons_zero, List.set_cons_succ])
                      refine wpAnyH_take (i := 1) (oi := ({ dst := some 83, op := Op.move (Operand.tmp 3), type := 34, pos := "ref.go:46", after := #[], guard := none } : Oper)) (v := ?_) rfl (by kernel_rfl) (by kernel_rfl) (by kernel_rfl) (fun _ _ _ h => h) (Or.inl ⟨by rfl, ?_⟩) (by assumption) ?_
                      rotate_left 1
                      · intro w hSw; (try dsimp only at hSw); go_simp; try with_reducible rfl
                      (try simp only [Act.put, List.setIfInBounds_toArray, List.set_cons_zero, List.set_cons_succ])
                      refine wpAnyH_take (i := 2) (oi := ({ dst := some 84, op := Op.move (Operand.tmp 9), type := 3, pos := "ref.go:46", after := #[], guard := none } : Oper)) (v := ?_) rfl (by kernel_rfl) (by kernel_rfl) (by kernel_rfl) (fun _ _ _ h => h) (Or.inl ⟨by rfl, ?_⟩) (by assumption) ?_
                      rotate_left 1
                      · intro w hSw; (try dsimp only at hSw); go_simp; try with_reducible rfl
                      (try simp only [Act.put, List.setIfInBounds_toArray, List.set_cons_zero, List.set_cons_succ])
                      refine wpAnyH_take (i := 3) (oi := ({ dst := some 85, op := Op.slice 34 (Operand.tmp 83) none (some (Operand.tmp 84)) none, type := 34, pos := "ref.go:46", after := #[{ on := 1, ground := Ground.data }, { on := 2, ground := Ground.data }], guard := none } : Oper)) (v := ?_) rfl (by kernel_rfl) (by kernel_rfl) (by kernel_rfl) (fun _ _ _ h => h) (Or.inl ⟨by rfl, ?_⟩) (by assumption) ?_
                      rotate_left 1
                      · intro w hSw; (try dsimp only at hSw); go_simp; try with_reducible rfl
                      (try simp only [Act.put, List.setIfInBounds_toArray, List.set_cons_zero, List.set_cons_succ])
                      refine wpAnyH_take (i := 5) (oi := ({ dst := some 87, op := Op.move (Operand.tmp 6), type := 9, pos := "ref.go:46", after := #[], guard := none } : Oper)) (v := ?_) rfl (by kernel_rfl) (by kernel_rfl) (by kernel_rfl) (fun _ _ _ h => h) (Or.inl ⟨by rfl, ?_⟩) (by assumption) ?_
                      rotate_left 1
                      · intro w hSw; (try dsimp only at hSw); go_simp; try with_reducible rfl
                      (try simp only [Act.put, List.setIfInBounds_toArray, List.set_cons_zero, List.set_cons_succ])
                      refine wpAnyH_take (i := 6) (oi := ({ dst := some 88, op := Op.move (Operand.tmp 7), type := 9, pos := "ref.go:46", after := #[], guard := none } : Oper)) (v := ?_) rfl (by kernel_rfl) (by kernel_rfl) (by kernel_rfl) (fun _ _ _ h => h) (Or.inl ⟨by rfl, ?_⟩) (by assumption) ?_
                      rotate_left 1
                      · intro w hSw; (try dsimp only at hSw); go_simp; try with_reducible rfl
                      (try simp only [Act.put, List.setIfInBounds_toArray, List.set_cons_zero, List.set_cons_succ])
                      refine wpAnyH_take (i := 7) (oi := ({ dst := some 89, op := Op.build 38 #[(0, Operand.tmp 87), (1, Operand.tmp 88)], type := 38, pos := "ref.go:46", after := #[{ on := 5, ground := Ground.data }, { on := 6, ground := Ground.data }], guard := none } : Oper)) (v := ?_) rfl (by kernel_rfl) (by kernel_rfl) (by kernel_rfl) (fun _ _ _ h => h) (Or.inl ⟨by rfl, ?_⟩) (by assumption) ?_
                      rotate_left 1
                      · intro w hSw; (try dsimp only at hSw); go_simp; try with_reducible rfl
                      (try simp only [Act.put, List.setIfInBounds_toArray, List.set_cons_zero, List.set_cons_succ])
                      refine wpAnyH_take (i := 10) (oi := ({ dst := some 92, op := Op.move (Operand.tmp 3), type := 34, pos := "ref.go:46", after := #[], guard := none } : Oper)) (v := ?_) rfl (by kernel_rfl) (by kernel_rfl) (by kernel_rfl) (fun _ _ _ h => h) (Or.inl ⟨by rfl, ?_⟩) (by assumption) ?_
                      rotate_left 1
                      · intro w hSw; (try dsimp only at hSw); go_simp; try with_reducible rfl
                      (try simp only [Act.put, List.setIfInBounds_toArray, List.set_cons_zero, List.set_cons_succ])
                      refine wpAnyH_take (i := 11) (oi := ({ dst := some 93, op := Op.move (Operand.tmp 9), type := 3, pos := "ref.go:46", after := #[], guard := none } : Oper)) (v := ?_) rfl (by kernel_rfl) (by kernel_rfl) (by kernel_rfl) (fun _ _ _ h => h) (Or.inl ⟨by rfl, ?_⟩) (by assumption) ?_
                      rotate_left 1
                      · intro w hSw; (try dsimp only at hSw); go_simp; try with_reducible rfl
                      (try simp only [Act.put, List.setIfInBounds_toArray, List.set_cons_zero, List.set_cons_succ])
                      refine wpAnyH_take (i := 12) (oi := ({ dst := some 94, op := Op.slice 34 (Operand.tmp 92) (some (Operand.tmp 93)) none none, type := 34, pos := "ref.go:46", after := #[{ on := 10, ground := Ground.data }, { on := 11, ground := Ground.data }], guard := none } : Oper)) (v := ?_) rfl (by kernel_rfl) (by kernel_rfl) (by kernel_rfl) (fun _ _ _ h => h) (Or.inl ⟨by rfl, ?_⟩) (by assumption) ?_
                      rotate_left 1
                      · intro w hSw; (try dsimp only at hSw); go_simp; try with_reducible rfl
                      (try simp only [Act.put, List.setIfInBounds_toArray, List.set_cons_zero, List.set_cons_succ])
                      --END
                      refine wpAnyH_ready (rs := [4, 8]) (by kernel_rfl) (by simp) ?_
                      refine AllReadyH.cons (o := _) rfl (fun K hK => ?_) (AllReadyH.cons (o := _) rfl (fun K hK => ?_) AllReadyH.nil)
                      · refine stepS (by rfl) (.tmp 82) (.tmp 85) 34 (by rfl) V0.heap.size 38 j0 (.agg #[.string ByteArray.empty, .string ByteArray.empty]) 2 32 Try.underlying34 hj0 hy0 hy1 hy2 (by rfl) (by decide) _ 0 [] (by rfl) (World.ownsRow_nil V0 V0.heap.size 38 2) (some a4) j _ (bdCells (out.take j)) (by rfl) LT4.out (SA.out.below LA.out D.out) bd_one (by unfold maxLen; omega) (by omega) D.out.size ?_
                        intro v4 W4 ho4 hg4 _
                        have D := Lib.hid (D.out.grown hg4 D.out.size (fun g h => by cases h))
                        have HO := Lib.hid ho4
                        clear ho4 hg4
                        refine hK.out _ _ trivial (fun hHeld => ?_)
                        clear hK K
                        (try simp only [Act.put, List.setIfInBounds_toArray, List.set_cons_zero, List.set_cons_succ])
                        refine wpAnyH_ready (rs := [8]) (by kernel_rfl) (by simp) ?_
                        refine AllReadyH.cons (o := _) rfl (fun K hK => ?_) AllReadyH.nil
                        go_simp
                        have HX := Lib.hid (twoS W4 (.string y.p) (.string m) 38)
                        have HO := Lib.hid (HO.out.alloc (.cells #[.string y.p, .string m] 38))
                        have D := Lib.hid (D.out.alloc D.out.size (.cells #[.string y.p, .string m] 38))
                        generalize W4.alloc (.cells #[.string y.p, .string m] 38) = W8 at *
                        refine hK.out _ _ trivial (fun hHeld => ?_)
                        clear hK K
                        (try simp only [Act.put, List.setIfInBounds_toArray, List.set_cons_zero, List.set_cons_succ])
                        refine wpAnyH_ready (rs := [9]) (by kernel_rfl) (by simp) ?_
                        refine AllReadyH.cons (o := _) rfl (fun K hK => ?_) AllReadyH.nil
                        refine stepS (by rfl) (.tmp 86) (.tmp 90) 34 (by rfl) V0.heap.size 38 j0 (.agg #[.string ByteArray.empty, .string ByteArray.empty]) 2 32 Try.underlying34 hj0 hy0 hy1 hy2 (by rfl) (by decide) _ _ _ (by rfl) HO.out _ 1 1 [.string y.p, .string m] (by rfl) rfl HX.out (by intro u hu; simp at hu; rcases hu with rfl | rfl <;> rfl) (by unfold maxLen; omega) (by omega) D.out.size ?_
                        intro v9 W9 ho9 hg9 _
                        have D := Lib.hid (D.out.grown hg9 D.out.size (fun g h => (ownS_blk HO.out h).2.1))
                        have HO := Lib.hid ho9
                        clear ho9 hg9 HX
                        refine hK.out _ _ trivial (fun hHeld => ?_)
                        clear hK K
                        (try simp only [Act.put, List.setIfInBounds_toArray, List.set_cons_zero, List.set_cons_succ])
                        refine wpAnyH_ready (rs := [13]) (by kernel_rfl) (by simp) ?_
                        refine AllReadyH.cons (o := _) rfl (fun K hK => ?_) AllReadyH.nil
                        refine stepS (by rfl) (.tmp 91) (.tmp 94) 34 (by rfl) V0.heap.size 38 j0 (.agg #[.string ByteArray.empty, .string ByteArray.empty]) 2 32 Try.underlying34 hj0 hy0 hy1 hy2 (by rfl) (by decide) _ _ _ (by rfl) HO.out (some (a4.add (j * 2))) (out.length - j) _ (bdCells (out.drop j)) (by rfl) LT13.out (SB.out.below LB.out D.out) bd_one (by unfold maxLen; omega) (by omega) D.out.size ?_
                        intro v13 W13 ho13 hg13 _
                        have D := Lib.hid (D.out.grown hg13 D.out.size (fun g h => (ownS_blk HO.out h).2.1))
                        have HO := Lib.hid ho13
                        clear ho13 hg13
                        refine hK.out _ _ trivial (fun hHeld => ?_)
                        clear hK K
                        (try simp only [Act.put, List.setIfInBounds_toArray, List.set_cons_zero, List.set_cons_succ])
                        --TAKES narthex/narthexref34.All:15 14
                        refine wpAnyH_take (i := 14) (oi := ({ dst := some 3, op := Op.assign (Operand.tmp 95), type := 34, pos := "ref.go:46", after := #[{ on := 13, ground := Ground.data }, { on := 13, ground := Ground.chain }, { on := 0, ground := Ground.phase }, { on := 1, ground := Ground.phase }, { on := 2, ground := Ground.phase }, { on := 3, ground := Ground.phase }, { on := 4, ground := Ground.phase }, { on := 5, ground := Ground.phase }, { on := 6, ground := Ground.phase }, { on := 7, ground := Ground.phase }, { on := 8, ground := Ground.phase }, { on := 9, ground := Ground.phase }, { on := 10, ground := Ground.phase }, { on := 11, ground := Ground.phase }, { on := 12, ground := Ground.phase }, { on := 13, ground := Ground.phase }], guard := none } : Oper)) (v := ?_) rfl (by kernel_rfl) (by kernel_rfl) (by kernel_rfl) (fun _ _ _ h => h) (Or.inl ⟨by rfl, ?_⟩) (by assumption) ?_
                        rotate_left 1
                        · intro w hSw; (try dsimp only at hSw); go_simp; try with_reducible rfl
                        (try simp only [Act.put, List.setIfInBounds_toArray, List.set_cons_zero, List.set_cons_succ])
                        --END
                        refine wpAnyH_done (by kernel_rfl) ?_ _
                        clear hHeld
                        have HB3 := Lib.hid (HBV.out.trans (D.out.mono HBV.out.size))
                        have HO3 : Hid (W13.ownsRow w.heap.size 38 2 v13 (allR bs (pre ++ f.take (k + 1))).length (bdCells (allR bs (pre ++ f.take (k + 1))))) := Lib.hid (by rw [HST.out]; exact insOwn (m2 := out.length - j) (by omega) (ownS_low HO.out HBV.out.size) (by omega))
                        go_wp2
                        go_roundw
                        case rel => exact ⟨k + 1, by omega, by go_num, HO3, HB3⟩
                        case measure => simp [intOf]; omega
                      · go_simp
                        have HX := Lib.hid (twoS V0 (.string y.p) (.string m) 38)
                        have D := Lib.hid (D.out.alloc D.out.size (.cells #[.string y.p, .string m] 38))
                        generalize V0.alloc (.cells #[.string y.p, .string m] 38) = W4 at *
                        refine hK.out _ _ trivial (fun hHeld => ?_)
                        clear hK K
                        (try simp only [Act.put, List.setIfInBounds_toArray, List.set_cons_zero, List.set_cons_succ])
                        refine wpAnyH_ready (rs := [4]) (by kernel_rfl) (by simp) ?_
                        refine AllReadyH.cons (o := _) rfl (fun K hK => ?_) AllReadyH.nil
                        refine stepS (by rfl) (.tmp 82) (.tmp 85) 34 (by rfl) V0.heap.size 38 j0 (.agg #[.string ByteArray.empty, .string ByteArray.empty]) 2 32 Try.underlying34 hj0 hy0 hy1 hy2 (by rfl) (by decide) _ 0 [] (by rfl) (World.ownsRow_nil W4 V0.heap.size 38 2) (some a4) j _ (bdCells (out.take j)) (by rfl) LT4.out (SA.out.below LA.out D.out) bd_one (by unfold maxLen; omega) (by omega) D.out.size ?_
                        intro v4 W8 ho4 hg4 _
                        have HX := Lib.hid (srcGrown HX.out hg4 (fun ad hA => by simp [Value.ownBlock]))
                        have D := Lib.hid (D.out.grown hg4 D.out.size (fun g h => by cases h))
                        have HO := Lib.hid ho4
                        clear ho4 hg4
                        refine hK.out _ _ trivial (fun hHeld => ?_)
                        clear hK K
                        (try simp only [Act.put, List.setIfInBounds_toArray, List.set_cons_zero, List.set_cons_succ])
                        refine wpAnyH_ready (rs := [9]) (by kernel_rfl) (by simp) ?_
                        refine AllReadyH.cons (o := _) rfl (fun K hK => ?_) AllReadyH.nil
                        refine stepS (by rfl) (.tmp 86) (.tmp 90) 34 (by rfl) V0.heap.size 38 j0 (.agg #[.string ByteArray.empty, .string ByteArray.empty]) 2 32 Try.underlying34 hj0 hy0 hy1 hy2 (by rfl) (by decide) _ _ _ (by rfl) HO.out _ 1 1 [.string y.p, .string m] (by rfl) rfl HX.out (by intro u hu; simp at hu; rcases hu with rfl | rfl <;> rfl) (by unfold maxLen; omega) (by omega) D.out.size ?_
                        intro v9 W9 ho9 hg9 _
                        have D := Lib.hid (D.out.grown hg9 D.out.size (fun g h => (ownS_blk HO.out h).2.1))
                        have HO := Lib.hid ho9
                        clear ho9 hg9 HX
                        refine hK.out _ _ trivial (fun hHeld => ?_)
                        clear hK K
                        (try simp only [Act.put, List.setIfInBounds_toArray, List.set_cons_zero, List.set_cons_succ])
                        refine wpAnyH_ready (rs := [13]) (by kernel_rfl) (by simp) ?_
                        refine AllReadyH.cons (o := _) rfl (fun K hK => ?_) AllReadyH.nil
                        refine stepS (by rfl) (.tmp 91) (.tmp 94) 34 (by rfl) V0.heap.size 38 j0 (.agg #[.string ByteArray.empty, .string ByteArray.empty]) 2 32 Try.underlying34 hj0 hy0 hy1 hy2 (by rfl) (by decide) _ _ _ (by rfl) HO.out (some (a4.add (j * 2))) (out.length - j) _ (bdCells (out.drop j)) (by rfl) LT13.out (SB.out.below LB.out D.out) bd_one (by unfold maxLen; omega) (by omega) D.out.size ?_
                        intro v13 W13 ho13 hg13 _
                        have D := Lib.hid (D.out.grown hg13 D.out.size (fun g h => (ownS_blk HO.out h).2.1))
                        have HO := Lib.hid ho13
                        clear ho13 hg13
                        refine hK.out _ _ trivial (fun hHeld => ?_)
                        clear hK K
                        (try simp only [Act.put, List.setIfInBounds_toArray, List.set_cons_zero, List.set_cons_succ])
                        --TAKES narthex/narthexref34.All:15 14
                        refine wpAnyH_take (i := 14) (oi := ({ dst := some 3, op := Op.assign (Operand.tmp 95), type := 34, pos := "ref.go:46", after := #[{ on := 13, ground := Ground.data }, { on := 13, ground := Ground.chain }, { on := 0, ground := Ground.phase }, { on := 1, ground := Ground.phase }, { on := 2, ground := Ground.phase }, { on := 3, ground := Ground.phase }, { on := 4, ground := Ground.phase }, { on := 5, ground := Ground.phase }, { on := 6, ground := Ground.phase }, { on := 7, ground := Ground.phase }, { on := 8, ground := Ground.phase }, { on := 9, ground := Ground.phase }, { on := 10, ground := Ground.phase }, { on := 11, ground := Ground.phase }, { on := 12, ground := Ground.phase }, { on := 13, ground := Ground.phase }], guard := none } : Oper)) (v := ?_) rfl (by kernel_rfl) (by kernel_rfl) (by kernel_rfl) (fun _ _ _ h => h) (Or.inl ⟨by rfl, ?_⟩) (by assumption) ?_
                        rotate_left 1
                        · intro w hSw; (try dsimp only at hSw); go_simp; try with_reducible rfl
                        (try simp only [Act.put, List.setIfInBounds_toArray, List.set_cons_zero, List.set_cons_succ])
                        --END
                        refine wpAnyH_done (by kernel_rfl) ?_ _
                        clear hHeld
                        have HB3 := Lib.hid (HBV.out.trans (D.out.mono HBV.out.size))
                        have HO3 : Hid (W13.ownsRow w.heap.size 38 2 v13 (allR bs (pre ++ f.take (k + 1))).length (bdCells (allR bs (pre ++ f.take (k + 1))))) := Lib.hid (by rw [HST.out]; exact insOwn (m2 := out.length - j) (by omega) (ownS_low HO.out HBV.out.size) (by omega))
                        go_wp2
                        go_roundw
                        case rel => exact ⟨k + 1, by omega, by go_num, HO3, HB3⟩
                        case measure => simp [intOf]; omega
                      --R15END
              · obtain rfl : j = out.length := by omega
                have e1 : ¬ (out.length : Int) < (out.length : Int) := by omega
                have hat := atR_is HLT.out (Nat.le_refl _) (.inl rfl)
                cases th with
                | true =>
                  have HST : Hid (allR bs (pre ++ f.take (k + 1)) = out) := Lib.hid (by rw [HY.out]; exact stepR_skip HTH.out HM.out)
                  have HO3 : Hid (wr.ownsRow w.heap.size 38 2 (.slice A3 out.length c3) (allR bs (pre ++ f.take (k + 1))).length (bdCells (allR bs (pre ++ f.take (k + 1))))) := Lib.hid (by rw [HST.out]; exact HO2.out)
                  clear hat
                  go_wp2
                  go_roundw
                  case rel => exact ⟨k + 1, by omega, by go_num, HO3, HB2⟩
                  case measure => simp [intOf]; omega
                | false =>
                  obtain ⟨hok, hme, hms⟩ := stepR_go HTH.out HM.out
                  have HST : Hid (allR bs (pre ++ f.take (k + 1)) = out.take out.length ++ ⟨y.p, m⟩ :: out.drop out.length) := Lib.hid (by
                    rw [HY.out]; unfold stepR; rw [if_neg (by rw [hok]; simp; rw [← hms]; exact hme)]
                    unfold insR; rw [hat, List.getElem?_eq_none (Nat.le_refl _), if_neg (by simp), ← hms])
                  clear hat hok hme hms
                  have hnc : out.length ≤ c3 := hc31
                  cases A3 with
                  | none =>
                    have h0 := own_none HO2.out
                    have hz : c3 = 0 := hc33 rfl
                    have hl0 : out.length = 0 := h0
                    rw [hl0] at HST
                    subst hz
                    --R15 0 ; none ; none ; srcDropN HO2.out ; 0 ; 0 ; 0
                    have HBV := Lib.hid (HB2.out.trans (below_drewS wr.heap.size wr |>.mono HB2.out.size))
                    have SA : Hid (Source wr.drew (none) 0 0 (bdCells (out.take 0))) := Lib.hid (srcTake HO2.out (by omega))
                    have SB : Hid (Source wr.drew (none) (0) (0) (bdCells (out.drop 0))) := Lib.hid (srcDropN HO2.out)
                    have LA : Hid (∀ ad : Addr, (none : Option Addr) = some ad → ad.block < wr.drew.heap.size) := Lib.hid (fun ad hA => own_addr HO2.out hA)
                    have LB : Hid (∀ ad : Addr, (none : Option Addr) = some ad → ad.block < wr.drew.heap.size) := Lib.hid (fun ad hA => by first | exact own_addr HO2.out hA | (cases hA; done) | (cases hA; rw [addBlockS]; exact own_addr HO2.out rfl))
                    have LT4 : Hid ((bdCells (out.take 0)).length = 0 * 2) := Lib.hid (by rw [bdCells_len, List.length_take]; omega)
                    have LT13 : Hid ((bdCells (out.drop 0)).length = (0) * 2) := Lib.hid (by rw [bdCells_len, List.length_drop]; try omega)
                    go_wp2_with fail
                    refine wp_region_held_drew (S := fun _ => True) (by kernel_rfl) trivial (fun hHeld => ?_)
                    generalize wr.drew = V0 at *
                    have D := Lib.hid (Below.refl V0.heap.size V0)
                    --TAKES narthex/narthexref34.All:15 0..3 5..7 10..12
                    refine wpAnyH_take (i := 0) (oi := ({ dst := some 82, op := Op.move (Operand.tmp 11), type := 34, pos := "ref.go:46", after := #[], guard := none } : Oper)) (v := ?_) rfl (by kernel_rfl) (by kernel_rfl) (by kernel_rfl) (fun _ _ _ h => h) (Or.inl ⟨by rfl, ?_⟩) (by assumption) ?_
                    rotate_left 1
                    · intro w hSw; (try dsimp only at hSw); go_simp; try with_reducible rfl
                    (try simp only [Act.put, List.setIfInBounds_toArray, List.set_cons_zero, List.set_cons_succ])
                    refine wpAnyH_take (i := 1) (oi := ({ dst := some 83, op := Op.move (Operand.tmp 3), type := 34, pos := "ref.go:46", after := #[], guard := none } : Oper)) (v := ?_) rfl (by kernel_rfl) (by kernel_rfl) (by kernel_rfl) (fun _ _ _ h => h) (Or.inl ⟨by rfl, ?_⟩) (by assumption) ?_
                    rotate_left 1
                    · intro w hSw; (try dsimp only at hSw); go_simp; try with_reducible rfl
                    (try simp only [Act.put, List.setIfInBounds_toArray, List.set_cons_zero, List.set_cons_succ])
                    refine wpAnyH_take (i := 2) (oi := ({ dst := some 84, op := Op.move (Operand.tmp 9), type := 3, pos := "ref.go:46", after := #[], guard := none } : Oper)) (v := ?_) rfl (by kernel_rfl) (by kernel_rfl) (by kernel_rfl) (fun _ _ _ h => h) (Or.inl ⟨by rfl, ?_⟩) (by assumption) ?_
                    rotate_left 1
                    · intro w hSw; (try dsimp only at hSw); go_simp; try with_reducible rfl
                    (try simp only [Act.put, List.setIfInBounds_toArray, List.set_cons_zero, List.set_cons_succ])
                    refine wpAnyH_take (i := 3) (oi := ({ dst := some 85, op := Op.slice 34 (Operand.tmp 83) none (some (Operand.tmp 84)) none, type := 34, pos := "ref.go:46", after := #[{ on := 1, ground := Ground.data }, { on := 2, ground := Ground.data }], guard := none } : Oper)) (v := ?_) rfl (by kernel_rfl) (by kernel_rfl) (by kernel_rfl) (fun _ _ _ h => h) (Or.inl ⟨by rfl, ?_⟩) (by assumption) ?_
                    rotate_left 1
                    · intro w hSw; (try dsimp only at hSw); go_simp; try with_reducible rfl
                    (try simp only [Act.put, List.setIfInBounds_toArray, List.set_cons_zero, List.set_cons_succ])
                    refine wpAnyH_take (i := 5) (oi := ({ dst := some 87, op := Op.move (Operand.tmp 6), type := 9, pos := "ref.go:46", after := #[], guard := none } : Oper)) (v := ?_) rfl (by kernel_rfl) (by kernel_rfl) (by kernel_rfl) (fun _ _ _ h => h) (Or.inl ⟨by rfl, ?_⟩) (by assumption) ?_
                    rotate_left 1
                    · intro w hSw; (try dsimp only at hSw); go_simp; try with_reducible rfl
                    (try simp only [Act.put, List.setIfInBounds_toArray, List.set_cons_zero, List.set_cons_succ])
                    refine wpAnyH_take (i := 6) (oi := ({ dst := some 88, op := Op.move (Operand.tmp 7), type := 9, pos := "ref.go:46", after := #[], guard := none } : Oper)) (v := ?_) rfl (by kernel_rfl) (by kernel_rfl) (by kernel_rfl) (fun _ _ _ h => h) (Or.inl ⟨by rfl, ?_⟩) (by assumption) ?_
                    rotate_left 1
                    · intro w hSw; (try dsimp only at hSw); go_simp; try with_reducible rfl
                    (try simp only [Act.put, List.setIfInBounds_toArray, List.set_cons_zero, List.set_cons_succ])
                    refine wpAnyH_take (i := 7) (oi := ({ dst := some 89, op := Op.build 38 #[(0, Operand.tmp 87), (1, Operand.tmp 88)], type := 38, pos := "ref.go:46", after := #[{ on := 5, ground := Ground.data }, { on := 6, ground := Ground.data }], guard := none } : Oper)) (v := ?_) rfl (by kernel_rfl) (by kernel_rfl) (by kernel_rfl) (fun _ _ _ h => h) (Or.inl ⟨by rfl, ?_⟩) (by assumption) ?_
                    rotate_left 1
                    · intro w hSw; (try dsimp only at hSw); go_simp; try with_reducible rfl
                    (try simp only [Act.put, List.setIfInBounds_toArray, List.set_cons_zero, List.set_cons_succ])
                    refine wpAnyH_take (i := 10) (oi := ({ dst := some 92, op := Op.move (Operand.tmp 3), type := 34, pos := "ref.go:46", after := #[], guard := none } : Oper)) (v := ?_) rfl (by kernel_rfl) (by kernel_rfl) (by kernel_rfl) (fun _ _ _ h => h) (Or.inl ⟨by rfl, ?_⟩) (by assumption) ?_
                    rotate_left 1
                    · intro w hSw; (try dsimp only at hSw); go_simp; try with_reducible rfl
                    (try simp only [Act.put, List.setIfInBounds_toArray, List.set_cons_zero, List.set_cons_succ])
                    refine wpAnyH_take (i := 11) (oi := ({ dst := some 93, op := Op.move (Operand.tmp 9), type := 3, pos := "ref.go:46", after := #[], guard := none } : Oper)) (v := ?_) rfl (by kernel_rfl) (by kernel_rfl) (by kernel_rfl) (fun _ _ _ h => h) (Or.inl ⟨by rfl, ?_⟩) (by assumption) ?_
                    rotate_left 1
                    · intro w hSw; (try dsimp only at hSw); go_simp; try with_reducible rfl
                    (try simp only [Act.put, List.setIfInBounds_toArray, List.set_cons_zero, List.set_cons_succ])
                    refine wpAnyH_take (i := 12) (oi := ({ dst := some 94, op := Op.slice 34 (Operand.tmp 92) (some (Operand.tmp 93)) none none, type := 34, pos := "ref.go:46", after := #[{ on := 10, ground := Ground.data }, { on := 11, ground := Ground.data }], guard := none } : Oper)) (v := ?_) rfl (by kernel_rfl) (by kernel_rfl) (by kernel_rfl) (fun _ _ _ h => h) (Or.inl ⟨by rfl, ?_⟩) (by assumption) ?_
                    rotate_left 1
                    · intro w hSw; (try dsimp only at hSw); go_simp; try with_reducible rfl
                    (try simp only [Act.put, List.setIfInBounds_toArray, List.set_cons_zero, List.set_cons_succ])
                    --END
                    refine wpAnyH_ready (rs := [4, 8]) (by kernel_rfl) (by simp) ?_
                    refine AllReadyH.cons (o := _) rfl (fun K hK => ?_) (AllReadyH.cons (o := _) rfl (fun K hK => ?_) AllReadyH.nil)
                    · refine stepS (by rfl) (.tmp 82) (.tmp 85) 34 (by rfl) V0.heap.size 38 j0 (.agg #[.string ByteArray.empty, .string ByteArray.empty]) 2 32 Try.underlying34 hj0 hy0 hy1 hy2 (by rfl) (by decide) _ 0 [] (by rfl) (World.ownsRow_nil V0 V0.heap.size 38 2) (none) 0 _ (bdCells (out.take 0)) (by rfl) LT4.out (SA.out.below LA.out D.out) bd_one (by unfold maxLen; omega) (by omega) D.out.size ?_
                      intro v4 W4 ho4 hg4 _
                      have D := Lib.hid (D.out.grown hg4 D.out.size (fun g h => by cases h))
                      have HO := Lib.hid ho4
                      clear ho4 hg4
                      refine hK.out _ _ trivial (fun hHeld => ?_)
                      clear hK K
                      (try simp only [Act.put, List.setIfInBounds_toArray, List.set_cons_zero, List.set_cons_succ])
                      refine wpAnyH_ready (rs := [8]) (by kernel_rfl) (by simp) ?_
                      refine AllReadyH.cons (o := _) rfl (fun K hK => ?_) AllReadyH.nil
                      go_simp
                      have HX := Lib.hid (twoS W4 (.string y.p) (.string m) 38)
                      have HO := Lib.hid (HO.out.alloc (.cells #[.string y.p, .string m] 38))
                      have D := Lib.hid (D.out.alloc D.out.size (.cells #[.string y.p, .string m] 38))
                      generalize W4.alloc (.cells #[.string y.p, .string m] 38) = W8 at *
                      refine hK.out _ _ trivial (fun hHeld => ?_)
                      clear hK K
                      (try simp only [Act.put, List.setIfInBounds_toArray, List.set_cons_zero, List.set_cons_succ])
                      refine wpAnyH_ready (rs := [9]) (by kernel_rfl) (by simp) ?_
                      refine AllReadyH.cons (o := _) rfl (fun K hK => ?_) AllReadyH.nil
                      refine stepS (by rfl) (.tmp 86) (.tmp 90) 34 (by rfl) V0.heap.size 38 j0 (.agg #[.string ByteArray.empty, .string ByteArray.empty]) 2 32 Try.underlying34 hj0 hy0 hy1 hy2 (by rfl) (by decide) _ _ _ (by rfl) HO.out _ 1 1 [.string y.p, .string m] (by rfl) rfl HX.out (by intro u hu; simp at hu; rcases hu with rfl | rfl <;> rfl) (by unfold maxLen; omega) (by omega) D.out.size ?_
                      intro v9 W9 ho9 hg9 _
                      have D := Lib.hid (D.out.grown hg9 D.out.size (fun g h => (ownS_blk HO.out h).2.1))
                      have HO := Lib.hid ho9
                      clear ho9 hg9 HX
                      refine hK.out _ _ trivial (fun hHeld => ?_)
                      clear hK K
                      (try simp only [Act.put, List.setIfInBounds_toArray, List.set_cons_zero, List.set_cons_succ])
                      refine wpAnyH_ready (rs := [13]) (by kernel_rfl) (by simp) ?_
                      refine AllReadyH.cons (o := _) rfl (fun K hK => ?_) AllReadyH.nil
                      refine stepS (by rfl) (.tmp 91) (.tmp 94) 34 (by rfl) V0.heap.size 38 j0 (.agg #[.string ByteArray.empty, .string ByteArray.empty]) 2 32 Try.underlying34 hj0 hy0 hy1 hy2 (by rfl) (by decide) _ _ _ (by rfl) HO.out (none) (0) _ (bdCells (out.drop 0)) (by rfl) LT13.out (SB.out.below LB.out D.out) bd_one (by unfold maxLen; omega) (by omega) D.out.size ?_
                      intro v13 W13 ho13 hg13 _
                      have D := Lib.hid (D.out.grown hg13 D.out.size (fun g h => (ownS_blk HO.out h).2.1))
                      have HO := Lib.hid ho13
                      clear ho13 hg13
                      refine hK.out _ _ trivial (fun hHeld => ?_)
                      clear hK K
                      (try simp only [Act.put, List.setIfInBounds_toArray, List.set_cons_zero, List.set_cons_succ])
                      --TAKES narthex/narthexref34.All:15 14
                      refine wpAnyH_take (i := 14) (oi := ({ dst := some 3, op := Op.assign (Operand.tmp 95), type := 34, pos := "ref.go:46", after := #[{ on := 13, ground := Ground.data }, { on := 13, ground := Ground.chain }, { on := 0, ground := Ground.phase }, { on := 1, ground := Ground.phase }, { on := 2, ground := Ground.phase }, { on := 3, ground := Ground.phase }, { on := 4, ground := Ground.phase }, { on := 5, ground := Ground.phase }, { on := 6, ground := Ground.phase }, { on := 7, ground := Ground.phase }, { on := 8, ground := Ground.phase }, { on := 9, ground := Ground.phase }, { on := 10, ground := Ground.phase }, { on := 11, ground := Ground.phase }, { on := 12, ground := Ground.phase }, { on := 13, ground := Ground.phase }], guard := none } : Oper)) (v := ?_) rfl (by kernel_rfl) (by kernel_rfl) (by kernel_rfl) (fun _ _ _ h => h) (Or.inl ⟨by rfl, ?_⟩) (by assumption) ?_
                      rotate_left 1
                      · intro w hSw; (try dsimp only at hSw); go_simp; try with_reducible rfl
                      (try simp only [Act.put, List.setIfInBounds_toArray, List.set_cons_zero, List.set_cons_succ])
                      --END
                      refine wpAnyH_done (by kernel_rfl) ?_ _
                      clear hHeld
                      have HB3 := Lib.hid (HBV.out.trans (D.out.mono HBV.out.size))
                      have HO3 : Hid (W13.ownsRow w.heap.size 38 2 v13 (allR bs (pre ++ f.take (k + 1))).length (bdCells (allR bs (pre ++ f.take (k + 1))))) := Lib.hid (by rw [HST.out]; exact insOwn (m2 := 0) (by omega) (ownS_low HO.out HBV.out.size) (by omega))
                      go_wp2
                      go_roundw
                      case rel => exact ⟨k + 1, by omega, by go_num, HO3, HB3⟩
                      case measure => simp [intOf]; omega
                    · go_simp
                      have HX := Lib.hid (twoS V0 (.string y.p) (.string m) 38)
                      have D := Lib.hid (D.out.alloc D.out.size (.cells #[.string y.p, .string m] 38))
                      generalize V0.alloc (.cells #[.string y.p, .string m] 38) = W4 at *
                      refine hK.out _ _ trivial (fun hHeld => ?_)
                      clear hK K
                      (try simp only [Act.put, List.setIfInBounds_toArray, List.set_cons_zero, List.set_cons_succ])
                      refine wpAnyH_ready (rs := [4]) (by kernel_rfl) (by simp) ?_
                      refine AllReadyH.cons (o := _) rfl (fun K hK => ?_) AllReadyH.nil
                      refine stepS (by rfl) (.tmp 82) (.tmp 85) 34 (by rfl) V0.heap.size 38 j0 (.agg #[.string ByteArray.empty, .string ByteArray.empty]) 2 32 Try.underlying34 hj0 hy0 hy1 hy2 (by rfl) (by decide) _ 0 [] (by rfl) (World.ownsRow_nil W4 V0.heap.size 38 2) (none) 0 _ (bdCells (out.take 0)) (by rfl) LT4.out (SA.out.below LA.out D.out) bd_one (by unfold maxLen; omega) (by omega) D.out.size ?_
                      intro v4 W8 ho4 hg4 _
                      have HX := Lib.hid (srcGrown HX.out hg4 (fun ad hA => by simp [Value.ownBlock]))
                      have D := Lib.hid (D.out.grown hg4 D.out.size (fun g h => by cases h))
                      have HO := Lib.hid ho4
                      clear ho4 hg4
                      refine hK.out _ _ trivial (fun hHeld => ?_)
                      clear hK K
                      (try simp only [Act.put, List.setIfInBounds_toArray, List.set_cons_zero, List.set_cons_succ])
                      refine wpAnyH_ready (rs := [9]) (by kernel_rfl) (by simp) ?_
                      refine AllReadyH.cons (o := _) rfl (fun K hK => ?_) AllReadyH.nil
                      refine stepS (by rfl) (.tmp 86) (.tmp 90) 34 (by rfl) V0.heap.size 38 j0 (.agg #[.string ByteArray.empty, .string ByteArray.empty]) 2 32 Try.underlying34 hj0 hy0 hy1 hy2 (by rfl) (by decide) _ _ _ (by rfl) HO.out _ 1 1 [.string y.p, .string m] (by rfl) rfl HX.out (by intro u hu; simp at hu; rcases hu with rfl | rfl <;> rfl) (by unfold maxLen; omega) (by omega) D.out.size ?_
                      intro v9 W9 ho9 hg9 _
                      have D := Lib.hid (D.out.grown hg9 D.out.size (fun g h => (ownS_blk HO.out h).2.1))
                      have HO := Lib.hid ho9
                      clear ho9 hg9 HX
                      refine hK.out _ _ trivial (fun hHeld => ?_)
                      clear hK K
                      (try simp only [Act.put, List.setIfInBounds_toArray, List.set_cons_zero, List.set_cons_succ])
                      refine wpAnyH_ready (rs := [13]) (by kernel_rfl) (by simp) ?_
                      refine AllReadyH.cons (o := _) rfl (fun K hK => ?_) AllReadyH.nil
                      refine stepS (by rfl) (.tmp 91) (.tmp 94) 34 (by rfl) V0.heap.size 38 j0 (.agg #[.string ByteArray.empty, .string ByteArray.empty]) 2 32 Try.underlying34 hj0 hy0 hy1 hy2 (by rfl) (by decide) _ _ _ (by rfl) HO.out (none) (0) _ (bdCells (out.drop 0)) (by rfl) LT13.out (SB.out.below LB.out D.out) bd_one (by unfold maxLen; omega) (by omega) D.out.size ?_
                      intro v13 W13 ho13 hg13 _
                      have D := Lib.hid (D.out.grown hg13 D.out.size (fun g h => (ownS_blk HO.out h).2.1))
                      have HO := Lib.hid ho13
                      clear ho13 hg13
                      refine hK.out _ _ trivial (fun hHeld => ?_)
                      clear hK K
                      (try simp only [Act.put, List.setIfInBounds_toArray, List.set_cons_zero, List.set_cons_succ])
                      --TAKES narthex/narthexref34.All:15 14
                      refine wpAnyH_take (i := 14) (oi := ({ dst := some 3, op := Op.assign (Operand.tmp 95), type := 34, pos := "ref.go:46", after := #[{ on := 13, ground := Ground.data }, { on := 13, ground := Ground.chain }, { on := 0, ground := Ground.phase }, { on := 1, ground := Ground.phase }, { on := 2, ground := Ground.phase }, { on := 3, ground := Ground.phase }, { on := 4, ground := Ground.phase }, { on := 5, ground := Ground.phase }, { on := 6, ground := Ground.phase }, { on := 7, ground := Ground.phase }, { on := 8, ground := Ground.phase }, { on := 9, ground := Ground.phase }, { on := 10, ground := Ground.phase }, { on := 11, ground := Ground.phase }, { on := 12, ground := Ground.phase }, { on := 13, ground := Ground.phase }], guard := none } : Oper)) (v := ?_) rfl (by kernel_rfl) (by kernel_rfl) (by kernel_rfl) (fun _ _ _ h => h) (Or.inl ⟨by rfl, ?_⟩) (by assumption) ?_
                      rotate_left 1
                      · intro w hSw; (try dsimp only at hSw); go_simp; try with_reducible rfl
                      (try simp only [Act.put, List.setIfInBounds_toArray, List.set_cons_zero, List.set_cons_succ])
                      --END
                      refine wpAnyH_done (by kernel_rfl) ?_ _
                      clear hHeld
                      have HB3 := Lib.hid (HBV.out.trans (D.out.mono HBV.out.size))
                      have HO3 : Hid (W13.ownsRow w.heap.size 38 2 v13 (allR bs (pre ++ f.take (k + 1))).length (bdCells (allR bs (pre ++ f.take (k + 1))))) := Lib.hid (by rw [HST.out]; exact insOwn (m2 := 0) (by omega) (ownS_low HO.out HBV.out.size) (by omega))
                      go_wp2
                      go_roundw
                      case rel => exact ⟨k + 1, by omega, by go_num, HO3, HB3⟩
                      case measure => simp [intOf]; omega
                    --R15END
                  | some a4 =>
                    have hz2 : out.length - out.length = 0 := by omega
                    by_cases hcn : c3 = out.length
                    · subst hcn
                      --R15 out.length ; some a4 ; some a4 ; srcEnd _ _ _ _ _ ; out.length ; 0 ; 0
                      have HBV := Lib.hid (HB2.out.trans (below_drewS wr.heap.size wr |>.mono HB2.out.size))
                      have SA : Hid (Source wr.drew (some a4) out.length out.length (bdCells (out.take out.length))) := Lib.hid (srcTake HO2.out (by omega))
                      have SB : Hid (Source wr.drew (some a4) (0) (0) (bdCells (out.drop out.length))) := Lib.hid (srcEnd _ _ _ _ _)
                      have LA : Hid (∀ ad : Addr, (some a4 : Option Addr) = some ad → ad.block < wr.drew.heap.size) := Lib.hid (fun ad hA => own_addr HO2.out hA)
                      have LB : Hid (∀ ad : Addr, (some a4 : Option Addr) = some ad → ad.block < wr.drew.heap.size) := Lib.hid (fun ad hA => by first | exact own_addr HO2.out hA | (cases hA; done) | (cases hA; rw [addBlockS]; exact own_addr HO2.out rfl))
                      have LT4 : Hid ((bdCells (out.take out.length)).length = out.length * 2) := Lib.hid (by rw [bdCells_len, List.length_take]; omega)
                      have LT13 : Hid ((bdCells (out.drop out.length)).length = (0) * 2) := Lib.hid (by rw [bdCells_len, List.length_drop]; try omega)
                      go_wp2_with fail
                      refine wp_region_held_drew (S := fun _ => True) (by kernel_rfl) trivial (fun hHeld => ?_)
                      generalize wr.drew = V0 at *
                      have D := Lib.hid (Below.refl V0.heap.size V0)
                      --TAKES narthex/narthexref34.All:15 0..3 5..7 10..12
                      refine wpAnyH_take (i := 0) (oi := ({ dst := some 82, op := Op.move (Operand.tmp 11), type := 34, pos := "ref.go:46", after := #[], guard := none } : Oper)) (v := ?_) rfl (by kernel_rfl) (by kernel_rfl) (by kernel_rfl) (fun _ _ _ h => h) (Or.inl ⟨by rfl, ?_⟩) (by assumption) ?_
                      rotate_left 1
                      · intro w hSw; (try dsimp only at hSw); go_simp; try with_reducible rfl
                      (try simp only [Act.put, List.setIfInBounds_toArray, List.set_cons_zero, List.set_cons_succ])
                      refine wpAnyH_take (i := 1) (oi := ({ dst := some 83, op := Op.move (Operand.tmp 3), type := 34, pos := "ref.go:46", after := #[], guard := none } : Oper)) (v := ?_) rfl (by kernel_rfl) (by kernel_rfl) (by kernel_rfl) (fun _ _ _ h => h) (Or.inl ⟨by rfl, ?_⟩) (by assumption) ?_
                      rotate_left 1
                      · intro w hSw; (try dsimp only at hSw); go_simp; try with_reducible rfl
                      (try simp only [Act.put, List.setIfInBounds_toArray, List.set_cons_zero, List.set_cons_succ])
                      refine wpAnyH_take (i := 2) (oi := ({ dst := some 84, op := Op.move (Operand.tmp 9), type := 3, pos := "ref.go:46", after := #[], guard := none } : Oper)) (v := ?_) rfl (by kernel_rfl) (by kernel_rfl) (by kernel_rfl) (fun _ _ _ h => h) (Or.inl ⟨by rfl, ?_⟩) (by assumption) ?_
                      rotate_left 1
                      · intro w hSw; (try dsimp only at hSw); go_simp; try with_reducible rfl
                      (try simp only [Act.put, List.setIfInBounds_toArray, List.set_cons_zero, List.set_cons_succ])
                      refine wpAnyH_take (i := 3) (oi := ({ dst := some 85, op := Op.slice 34 (Operand.tmp 83) none (some (Operand.tmp 84)) none, type := 34, pos := "ref.go:46", after := #[{ on := 1, ground := Ground.data }, { on := 2, ground := Ground.data }], guard := none } : Oper)) (v := ?_) rfl (by kernel_rfl) (by kernel_rfl) (by kernel_rfl) (fun _ _ _ h => h) (Or.inl ⟨by rfl, ?_⟩) (by assumption) ?_
                      rotate_left 1
                      · intro w hSw; (try dsimp only at hSw); go_simp; try with_reducible rfl
                      (try simp only [Act.put, List.setIfInBounds_toArray, List.set_cons_zero, List.set_cons_succ])
                      refine wpAnyH_take (i := 5) (oi := ({ dst := some 87, op := Op.move (Operand.tmp 6), type := 9, pos := "ref.go:46", after := #[], guard := none } : Oper)) (v := ?_) rfl (by kernel_rfl) (by kernel_rfl) (by kernel_rfl) (fun _ _ _ h => h) (Or.inl ⟨by rfl, ?_⟩) (by assumption) ?_
                      rotate_left 1
                      · intro w hSw; (try dsimp only at hSw); go_simp; try with_reducible rfl
                      (try simp only [Act.put, List.setIfInBounds_toArray, List.set_cons_zero, List.set_cons_succ])
                      refine wpAnyH_take (i := 6) (oi := ({ dst := some 88, op := Op.move (Operand.tmp 7), type := 9, pos := "ref.go:46", after := #[], guard := none } : Oper)) (v := ?_) rfl (by kernel_rfl) (by kernel_rfl) (by kernel_rfl) (fun _ _ _ h => h) (Or.inl ⟨by rfl, ?_⟩) (by assumption) ?_
                      rotate_left 1
                      · intro w hSw; (try dsimp only at hSw); go_simp; try with_reducible rfl
                      (try simp only [Act.put, List.setIfInBounds_toArray, List.set_cons_zero, List.set_cons_succ])
                      refine wpAnyH_take (i := 7) (oi := ({ dst := some 89, op := Op.build 38 #[(0, Operand.tmp 87), (1, Operand.tmp 88)], type := 38, pos := "ref.go:46", after := #[{ on := 5, ground := Ground.data }, { on := 6, ground := Ground.data }], guard := none } : Oper)) (v := ?_) rfl (by kernel_rfl) (by kernel_rfl) (by kernel_rfl) (fun _ _ _ h => h) (Or.inl ⟨by rfl, ?_⟩) (by assumption) ?_
                      rotate_left 1
                      · intro w hSw; (try dsimp only at hSw); go_simp; try with_reducible rfl
                      (try simp only [Act.put, List.setIfInBounds_toArray, List.set_cons_zero, List.set_cons_succ])
                      refine wpAnyH_take (i := 10) (oi := ({ dst := some 92, op := Op.move (Operand.tmp 3), type := 34, pos := "ref.go:46", after := #[], guard := none } : Oper)) (v := ?_) rfl (by kernel_rfl) (by kernel_rfl) (by kernel_rfl) (fun _ _ _ h => h) (Or.inl ⟨by rfl, ?_⟩) (by assumption) ?_
                      rotate_left 1
                      · intro w hSw; (try dsimp only at hSw); go_simp; try with_reducible rfl
                      (try simp only [Act.put, List.setIfInBounds_toArray, List.set_cons_zero, List.set_cons_succ])
                      refine wpAnyH_take (i := 11) (oi := ({ dst := some 93, op := Op.move (Operand.tmp 9), type := 3, pos := "ref.go:46", after := #[], guard := none } : Oper)) (v := ?_) rfl (by kernel_rfl) (by kernel_rfl) (by kernel_rfl) (fun _ _ _ h => h) (Or.inl ⟨by rfl, ?_⟩) (by assumption) ?_
                      rotate_left 1
                      · intro w hSw; (try dsimp only at hSw); go_simp; try with_reducible rfl
                      (try simp only [Act.put, List.setIfInBounds_toArray, List.set_cons_zero, List.set_cons_succ])
                      refine wpAnyH_take (i := 12) (oi := ({ dst := some 94, op := Op.slice 34 (Operand.tmp 92) (some (Operand.tmp 93)) none none, type := 34, pos := "ref.go:46", after := #[{ on := 10, ground := Ground.data }, { on := 11, ground := Ground.data }], guard := none } : Oper)) (v := ?_) rfl (by kernel_rfl) (by kernel_rfl) (by kernel_rfl) (fun _ _ _ h => h) (Or.inl ⟨by rfl, ?_⟩) (by assumption) ?_
                      rotate_left 1
                      · intro w hSw; (try dsimp only at hSw); go_simp; try with_reducible rfl
                      (try simp only [Act.put, List.setIfInBounds_toArray, List.set_cons_zero, List.set_cons_succ])
                      --END
                      refine wpAnyH_ready (rs := [4, 8]) (by kernel_rfl) (by simp) ?_
                      refine AllReadyH.cons (o := _) rfl (fun K hK => ?_) (AllReadyH.cons (o := _) rfl (fun K hK => ?_) AllReadyH.nil)
                      · refine stepS (by rfl) (.tmp 82) (.tmp 85) 34 (by rfl) V0.heap.size 38 j0 (.agg #[.string ByteArray.empty, .string ByteArray.empty]) 2 32 Try.underlying34 hj0 hy0 hy1 hy2 (by rfl) (by decide) _ 0 [] (by rfl) (World.ownsRow_nil V0 V0.heap.size 38 2) (some a4) out.length _ (bdCells (out.take out.length)) (by rfl) LT4.out (SA.out.below LA.out D.out) bd_one (by unfold maxLen; omega) (by omega) D.out.size ?_
                        intro v4 W4 ho4 hg4 _
                        have D := Lib.hid (D.out.grown hg4 D.out.size (fun g h => by cases h))
                        have HO := Lib.hid ho4
                        clear ho4 hg4
                        refine hK.out _ _ trivial (fun hHeld => ?_)
                        clear hK K
                        (try simp only [Act.put, List.setIfInBounds_toArray, List.set_cons_zero, List.set_cons_succ])
                        refine wpAnyH_ready (rs := [8]) (by kernel_rfl) (by simp) ?_
                        refine AllReadyH.cons (o := _) rfl (fun K hK => ?_) AllReadyH.nil
                        go_simp
                        have HX := Lib.hid (twoS W4 (.string y.p) (.string m) 38)
                        have HO := Lib.hid (HO.out.alloc (.cells #[.string y.p, .string m] 38))
                        have D := Lib.hid (D.out.alloc D.out.size (.cells #[.string y.p, .string m] 38))
                        generalize W4.alloc (.cells #[.string y.p, .string m] 38) = W8 at *
                        refine hK.out _ _ trivial (fun hHeld => ?_)
                        clear hK K
                        (try simp only [Act.put, List.setIfInBounds_toArray, List.set_cons_zero, List.set_cons_succ])
                        refine wpAnyH_ready (rs := [9]) (by kernel_rfl) (by simp) ?_
                        refine AllReadyH.cons (o := _) rfl (fun K hK => ?_) AllReadyH.nil
                        refine stepS (by rfl) (.tmp 86) (.tmp 90) 34 (by rfl) V0.heap.size 38 j0 (.agg #[.string ByteArray.empty, .string ByteArray.empty]) 2 32 Try.underlying34 hj0 hy0 hy1 hy2 (by rfl) (by decide) _ _ _ (by rfl) HO.out _ 1 1 [.string y.p, .string m] (by rfl) rfl HX.out (by intro u hu; simp at hu; rcases hu with rfl | rfl <;> rfl) (by unfold maxLen; omega) (by omega) D.out.size ?_
                        intro v9 W9 ho9 hg9 _
                        have D := Lib.hid (D.out.grown hg9 D.out.size (fun g h => (ownS_blk HO.out h).2.1))
                        have HO := Lib.hid ho9
                        clear ho9 hg9 HX
                        refine hK.out _ _ trivial (fun hHeld => ?_)
                        clear hK K
                        (try simp only [Act.put, List.setIfInBounds_toArray, List.set_cons_zero, List.set_cons_succ])
                        refine wpAnyH_ready (rs := [13]) (by kernel_rfl) (by simp) ?_
                        refine AllReadyH.cons (o := _) rfl (fun K hK => ?_) AllReadyH.nil
                        refine stepS (by rfl) (.tmp 91) (.tmp 94) 34 (by rfl) V0.heap.size 38 j0 (.agg #[.string ByteArray.empty, .string ByteArray.empty]) 2 32 Try.underlying34 hj0 hy0 hy1 hy2 (by rfl) (by decide) _ _ _ (by rfl) HO.out (some a4) (0) _ (bdCells (out.drop out.length)) (by rfl) LT13.out (SB.out.below LB.out D.out) bd_one (by unfold maxLen; omega) (by omega) D.out.size ?_
                        intro v13 W13 ho13 hg13 _
                        have D := Lib.hid (D.out.grown hg13 D.out.size (fun g h => (ownS_blk HO.out h).2.1))
                        have HO := Lib.hid ho13
                        clear ho13 hg13
                        refine hK.out _ _ trivial (fun hHeld => ?_)
                        clear hK K
                        (try simp only [Act.put, List.setIfInBounds_toArray, List.set_cons_zero, List.set_cons_succ])
                        --TAKES narthex/narthexref34.All:15 14
                        refine wpAnyH_take (i := 14) (oi := ({ dst := some 3, op := Op.assign (Operand.tmp 95), type := 34, pos := "ref.go:46", after := #[{ on := 13, ground := Ground.data }, { on := 13, ground := Ground.chain }, { on := 0, ground := Ground.phase }, { on := 1, ground := Ground.phase }, { on := 2, ground := Ground.phase }, { on := 3, ground := Ground.phase }, { on := 4, ground := Ground.phase }, { on := 5, ground := Ground.phase }, { on := 6, ground := Ground.phase }, { on := 7, ground := Ground.phase }, { on := 8, ground := Ground.phase }, { on := 9, ground := Ground.phase }, { on := 10, ground := Ground.phase }, { on := 11, ground := Ground.phase }, { on := 12, ground := Ground.phase }, { on := 13, ground := Ground.phase }], guard := none } : Oper)) (v := ?_) rfl (by kernel_rfl) (by kernel_rfl) (by kernel_rfl) (fun _ _ _ h => h) (Or.inl ⟨by rfl, ?_⟩) (by assumption) ?_
                        rotate_left 1
                        · intro w hSw; (try dsimp only at hSw); go_simp; try with_reducible rfl
                        (try simp only [Act.put, List.setIfInBounds_toArray, List.set_cons_zero, List.set_cons_succ])
                        --END
                        refine wpAnyH_done (by kernel_rfl) ?_ _
                        clear hHeld
                        have HB3 := Lib.hid (HBV.out.trans (D.out.mono HBV.out.size))
                        have HO3 : Hid (W13.ownsRow w.heap.size 38 2 v13 (allR bs (pre ++ f.take (k + 1))).length (bdCells (allR bs (pre ++ f.take (k + 1))))) := Lib.hid (by rw [HST.out]; exact insOwn (m2 := 0) (by omega) (ownS_low HO.out HBV.out.size) (by omega))
                        go_wp2
                        go_roundw
                        case rel => exact ⟨k + 1, by omega, by go_num, HO3, HB3⟩
                        case measure => simp [intOf]; omega
                      · go_simp
                        have HX := Lib.hid (twoS V0 (.string y.p) (.string m) 38)
                        have D := Lib.hid (D.out.alloc D.out.size (.cells #[.string y.p, .string m] 38))
                        generalize V0.alloc (.cells #[.string y.p, .string m] 38) = W4 at *
                        refine hK.out _ _ trivial (fun hHeld => ?_)
                        clear hK K
                        (try simp only [Act.put, List.setIfInBounds_toArray, List.set_cons_zero, List.set_cons_succ])
                        refine wpAnyH_ready (rs := [4]) (by kernel_rfl) (by simp) ?_
                        refine AllReadyH.cons (o := _) rfl (fun K hK => ?_) AllReadyH.nil
                        refine stepS (by rfl) (.tmp 82) (.tmp 85) 34 (by rfl) V0.heap.size 38 j0 (.agg #[.string ByteArray.empty, .string ByteArray.empty]) 2 32 Try.underlying34 hj0 hy0 hy1 hy2 (by rfl) (by decide) _ 0 [] (by rfl) (World.ownsRow_nil W4 V0.heap.size 38 2) (some a4) out.length _ (bdCells (out.take out.length)) (by rfl) LT4.out (SA.out.below LA.out D.out) bd_one (by unfold maxLen; omega) (by omega) D.out.size ?_
                        intro v4 W8 ho4 hg4 _
                        have HX := Lib.hid (srcGrown HX.out hg4 (fun ad hA => by simp [Value.ownBlock]))
                        have D := Lib.hid (D.out.grown hg4 D.out.size (fun g h => by cases h))
                        have HO := Lib.hid ho4
                        clear ho4 hg4
                        refine hK.out _ _ trivial (fun hHeld => ?_)
                        clear hK K
                        (try simp only [Act.put, List.setIfInBounds_toArray, List.set_cons_zero, List.set_cons_succ])
                        refine wpAnyH_ready (rs := [9]) (by kernel_rfl) (by simp) ?_
                        refine AllReadyH.cons (o := _) rfl (fun K hK => ?_) AllReadyH.nil
                        refine stepS (by rfl) (.tmp 86) (.tmp 90) 34 (by rfl) V0.heap.size 38 j0 (.agg #[.string ByteArray.empty, .string ByteArray.empty]) 2 32 Try.underlying34 hj0 hy0 hy1 hy2 (by rfl) (by decide) _ _ _ (by rfl) HO.out _ 1 1 [.string y.p, .string m] (by rfl) rfl HX.out (by intro u hu; simp at hu; rcases hu with rfl | rfl <;> rfl) (by unfold maxLen; omega) (by omega) D.out.size ?_
                        intro v9 W9 ho9 hg9 _
                        have D := Lib.hid (D.out.grown hg9 D.out.size (fun g h => (ownS_blk HO.out h).2.1))
                        have HO := Lib.hid ho9
                        clear ho9 hg9 HX
                        refine hK.out _ _ trivial (fun hHeld => ?_)
                        clear hK K
                        (try simp only [Act.put, List.setIfInBounds_toArray, List.set_cons_zero, List.set_cons_succ])
                        refine wpAnyH_ready (rs := [13]) (by kernel_rfl) (by simp) ?_
                        refine AllReadyH.cons (o := _) rfl (fun K hK => ?_) AllReadyH.nil
                        refine stepS (by rfl) (.tmp 91) (.tmp 94) 34 (by rfl) V0.heap.size 38 j0 (.agg #[.string ByteArray.empty, .string ByteArray.empty]) 2 32 Try.underlying34 hj0 hy0 hy1 hy2 (by rfl) (by decide) _ _ _ (by rfl) HO.out (some a4) (0) _ (bdCells (out.drop out.length)) (by rfl) LT13.out (SB.out.below LB.out D.out) bd_one (by unfold maxLen; omega) (by omega) D.out.size ?_
                        intro v13 W13 ho13 hg13 _
                        have D := Lib.hid (D.out.grown hg13 D.out.size (fun g h => (ownS_blk HO.out h).2.1))
                        have HO := Lib.hid ho13
                        clear ho13 hg13
                        refine hK.out _ _ trivial (fun hHeld => ?_)
                        clear hK K
                        (try simp only [Act.put, List.setIfInBounds_toArray, List.set_cons_zero, List.set_cons_succ])
                        --TAKES narthex/narthexref34.All:15 14
                        refine wpAnyH_take (i := 14) (oi := ({ dst := some 3, op := Op.assign (Operand.tmp 95), type := 34, pos := "ref.go:46", after := #[{ on := 13, ground := Ground.data }, { on := 13, ground := Ground.chain }, { on := 0, ground := Ground.phase }, { on := 1, ground := Ground.phase }, { on := 2, ground := Ground.phase }, { on := 3, ground := Ground.phase }, { on := 4, ground := Ground.phase }, { on := 5, ground := Ground.phase }, { on := 6, ground := Ground.phase }, { on := 7, ground := Ground.phase }, { on := 8, ground := Ground.phase }, { on := 9, ground := Ground.phase }, { on := 10, ground := Ground.phase }, { on := 11, ground := Ground.phase }, { on := 12, ground := Ground.phase }, { on := 13, ground := Ground.phase }], guard := none } : Oper)) (v := ?_) rfl (by kernel_rfl) (by kernel_rfl) (by kernel_rfl) (fun _ _ _ h => h) (Or.inl ⟨by rfl, ?_⟩) (by assumption) ?_
                        rotate_left 1
                        · intro w hSw; (try dsimp only at hSw); go_simp; try with_reducible rfl
                        (try simp only [Act.put, List.setIfInBounds_toArray, List.set_cons_zero, List.set_cons_succ])
                        --END
                        refine wpAnyH_done (by kernel_rfl) ?_ _
                        clear hHeld
                        have HB3 := Lib.hid (HBV.out.trans (D.out.mono HBV.out.size))
                        have HO3 : Hid (W13.ownsRow w.heap.size 38 2 v13 (allR bs (pre ++ f.take (k + 1))).length (bdCells (allR bs (pre ++ f.take (k + 1))))) := Lib.hid (by rw [HST.out]; exact insOwn (m2 := 0) (by omega) (ownS_low HO.out HBV.out.size) (by omega))
                        go_wp2
                        go_roundw
                        case rel => exact ⟨k + 1, by omega, by go_num, HO3, HB3⟩
                        case measure => simp [intOf]; omega
                      --R15END
                    · have _ := 0
                      --R15 out.length ; some a4 ; some (a4.add (out.length * 2)) ; srcEnd _ _ _ _ _ ; c3 ; 0 ; c3 - out.length
                      have HBV := Lib.hid (HB2.out.trans (below_drewS wr.heap.size wr |>.mono HB2.out.size))
                      have SA : Hid (Source wr.drew (some a4) out.length c3 (bdCells (out.take out.length))) := Lib.hid (srcTake HO2.out (by omega))
                      have SB : Hid (Source wr.drew (some (a4.add (out.length * 2))) (0) (c3 - out.length) (bdCells (out.drop out.length))) := Lib.hid (srcEnd _ _ _ _ _)
                      have LA : Hid (∀ ad : Addr, (some a4 : Option Addr) = some ad → ad.block < wr.drew.heap.size) := Lib.hid (fun ad hA => own_addr HO2.out hA)
                      have LB : Hid (∀ ad : Addr, (some (a4.add (out.length * 2)) : Option Addr) = some ad → ad.block < wr.drew.heap.size) := Lib.hid (fun ad hA => by first | exact own_addr HO2.out hA | (cases hA; done) | (cases hA; rw [addBlockS]; exact own_addr HO2.out rfl))
                      have LT4 : Hid ((bdCells (out.take out.length)).length = out.length * 2) := Lib.hid (by rw [bdCells_len, List.length_take]; omega)
                      have LT13 : Hid ((bdCells (out.drop out.length)).length = (0) * 2) := Lib.hid (by rw [bdCells_len, List.length_drop]; try omega)
                      go_wp2_with fail
                      refine wp_region_held_drew (S := fun _ => True) (by kernel_rfl) trivial (fun hHeld => ?_)
                      generalize wr.drew = V0 at *
                      have D := Lib.hid (Below.refl V0.heap.size V0)
                      --TAKES narthex/narthexref34.All:15 0..3 5..7 10..12
                      refine wpAnyH_take (i := 0) (oi := ({ dst := some 82, op := Op.move (Operand.tmp 11), type := 34, pos := "ref.go:46", after := #[], guard := none } : Oper)) (v := ?_) rfl (by kernel_rfl) (by kernel_rfl) (by kernel_rfl) (fun _ _ _ h => h) (Or.inl ⟨by rfl, ?_⟩) (by assumption) ?_
                      rotate_left 1
                      · intro w hSw; (try dsimp only at hSw); go_simp; try with_reducible rfl
                      (try simp only [Act.put, List.setIfInBounds_toArray, List.set_cons_zero, List.set_cons_succ])
                      refine wpAnyH_take (i := 1) (oi := ({ dst := some 83, op := Op.move (Operand.tmp 3), type := 34, pos := "ref.go:46", after := #[], guard := none } : Oper)) (v := ?_) rfl (by kernel_rfl) (by kernel_rfl) (by kernel_rfl) (fun _ _ _ h => h) (Or.inl ⟨by rfl, ?_⟩) (by assumption) ?_
                      rotate_left 1
                      · intro w hSw; (try dsimp only at hSw); go_simp; try with_reducible rfl
                      (try simp only [Act.put, List.setIfInBounds_toArray, List.set_cons_zero, List.set_cons_succ])
                      refine wpAnyH_take (i := 2) (oi := ({ dst := some 84, op := Op.move (Operand.tmp 9), type := 3, pos := "ref.go:46", after := #[], guard := none } : Oper)) (v := ?_) rfl (by kernel_rfl) (by kernel_rfl) (by kernel_rfl) (fun _ _ _ h => h) (Or.inl ⟨by rfl, ?_⟩) (by assumption) ?_
                      rotate_left 1
                      · intro w hSw; (try dsimp only at hSw); go_simp; try with_reducible rfl
                      (try simp only [Act.put, List.setIfInBounds_toArray, List.set_cons_zero, List.set_cons_succ])
                      refine wpAnyH_take (i := 3) (oi := ({ dst := some 85, op := Op.slice 34 (Operand.tmp 83) none (some (Operand.tmp 84)) none, type := 34, pos := "ref.go:46", after := #[{ on := 1, ground := Ground.data }, { on := 2, ground := Ground.data }], guard := none } : Oper)) (v := ?_) rfl (by kernel_rfl) (by kernel_rfl) (by kernel_rfl) (fun _ _ _ h => h) (Or.inl ⟨by rfl, ?_⟩) (by assumption) ?_
                      rotate_left 1
                      · intro w hSw; (try dsimp only at hSw); go_simp; try with_reducible rfl
                      (try simp only [Act.put, List.setIfInBounds_toArray, List.set_cons_zero, List.set_cons_succ])
                      refine wpAnyH_take (i := 5) (oi := ({ dst := some 87, op := Op.move (Operand.tmp 6), type := 9, pos := "ref.go:46", after := #[], guard := none } : Oper)) (v := ?_) rfl (by kernel_rfl) (by kernel_rfl) (by kernel_rfl) (fun _ _ _ h => h) (Or.inl ⟨by rfl, ?_⟩) (by assumption) ?_
                      rotate_left 1
                      · intro w hSw; (try dsimp only at hSw); go_simp; try with_reducible rfl
                      (try simp only [Act.put, List.setIfInBounds_toArray, List.set_cons_zero, List.set_cons_succ])
                      refine wpAnyH_take (i := 6) (oi := ({ dst := some 88, op := Op.move (Operand.tmp 7), type := 9, pos := "ref.go:46", after := #[], guard := none } : Oper)) (v := ?_) rfl (by kernel_rfl) (by kernel_rfl) (by kernel_rfl) (fun _ _ _ h => h) (Or.inl ⟨by rfl, ?_⟩) (by assumption) ?_
                      rotate_left 1
                      · intro w hSw; (try dsimp only at hSw); go_simp; try with_reducible rfl
                      (try simp only [Act.put, List.setIfInBounds_toArray, List.set_cons_zero, List.set_cons_succ])
                      refine wpAnyH_take (i := 7) (oi := ({ dst := some 89, op := Op.build 38 #[(0, Operand.tmp 87), (1, Operand.tmp 88)], type := 38, pos := "ref.go:46", after := #[{ on := 5, ground := Ground.data }, { on := 6, ground := Ground.data }], guard := none } : Oper)) (v := ?_) rfl (by kernel_rfl) (by kernel_rfl) (by kernel_rfl) (fun _ _ _ h => h) (Or.inl ⟨by rfl, ?_⟩) (by assumption) ?_
                      rotate_left 1
                      · intro w hSw; (try dsimp only at hSw); go_simp; try with_reducible rfl
                      (try simp only [Act.put, List.setIfInBounds_toArray, List.set_cons_zero, List.set_cons_succ])
                      refine wpAnyH_take (i := 10) (oi := ({ dst := some 92, op := Op.move (Operand.tmp 3), type := 34, pos := "ref.go:46", after := #[], guard := none } : Oper)) (v := ?_) rfl (by kernel_rfl) (by kernel_rfl) (by kernel_rfl) (fun _ _ _ h => h) (Or.inl ⟨by rfl, ?_⟩) (by assumption) ?_
                      rotate_left 1
                      · intro w hSw; (try dsimp only at hSw); go_simp; try with_reducible rfl
                      (try simp only [Act.put, List.setIfInBounds_toArray, List.set_cons_zero, List.set_cons_succ])
                      refine wpAnyH_take (i := 11) (oi := ({ dst := some 93, op := Op.move (Operand.tmp 9), type := 3, pos := "ref.go:46", after := #[], guard := none } : Oper)) (v := ?_) rfl (by kernel_rfl) (by kernel_rfl) (by kernel_rfl) (fun _ _ _ h => h) (Or.inl ⟨by rfl, ?_⟩) (by assumption) ?_
                      rotate_left 1
                      · intro w hSw; (try dsimp only at hSw); go_simp; try with_reducible rfl
                      (try simp only [Act.put, List.setIfInBounds_toArray, List.set_cons_zero, List.set_cons_succ])
                      refine wpAnyH_take (i := 12) (oi := ({ dst := some 94, op := Op.slice 34 (Operand.tmp 92) (some (Operand.tmp 93)) none none, type := 34, pos := "ref.go:46", after := #[{ on := 10, ground := Ground.data }, { on := 11, ground := Ground.data }], guard := none } : Oper)) (v := ?_) rfl (by kernel_rfl) (by kernel_rfl) (by kernel_rfl) (fun _ _ _ h => h) (Or.inl ⟨by rfl, ?_⟩) (by assumption) ?_
                      rotate_left 1
                      · intro w hSw; (try dsimp only at hSw); go_simp; try with_reducible rfl
                      (try simp only [Act.put, List.setIfInBounds_toArray, List.set_cons_zero, List.set_cons_succ])
                      --END
                      refine wpAnyH_ready (rs := [4, 8]) (by kernel_rfl) (by simp) ?_
                      refine AllReadyH.cons (o := _) rfl (fun K hK => ?_) (AllReadyH.cons (o := _) rfl (fun K hK => ?_) AllReadyH.nil)
                      · refine stepS (by rfl) (.tmp 82) (.tmp 85) 34 (by rfl) V0.heap.size 38 j0 (.agg #[.string ByteArray.empty, .string ByteArray.empty]) 2 32 Try.underlying34 hj0 hy0 hy1 hy2 (by rfl) (by decide) _ 0 [] (by rfl) (World.ownsRow_nil V0 V0.heap.size 38 2) (some a4) out.length _ (bdCells (out.take out.length)) (by rfl) LT4.out (SA.out.below LA.out D.out) bd_one (by unfold maxLen; omega) (by omega) D.out.size ?_
                        intro v4 W4 ho4 hg4 _
                        have D := Lib.hid (D.out.grown hg4 D.out.size (fun g h => by cases h))
                        have HO := Lib.hid ho4
                        clear ho4 hg4
                        refine hK.out _ _ trivial (fun hHeld => ?_)
                        clear hK K
                        (try simp only [Act.put, List.setIfInBounds_toArray, List.set_cons_zero, List.set_cons_succ])
                        refine wpAnyH_ready (rs := [8]) (by kernel_rfl) (by simp) ?_
                        refine AllReadyH.cons (o := _) rfl (fun K hK => ?_) AllReadyH.nil
                        go_simp
                        have HX := Lib.hid (twoS W4 (.string y.p) (.string m) 38)
                        have HO := Lib.hid (HO.out.alloc (.cells #[.string y.p, .string m] 38))
                        have D := Lib.hid (D.out.alloc D.out.size (.cells #[.string y.p, .string m] 38))
                        generalize W4.alloc (.cells #[.string y.p, .string m] 38) = W8 at *
                        refine hK.out _ _ trivial (fun hHeld => ?_)
                        clear hK K
                        (try simp only [Act.put, List.setIfInBounds_toArray, List.set_cons_zero, List.set_cons_succ])
                        refine wpAnyH_ready (rs := [9]) (by kernel_rfl) (by simp) ?_
                        refine AllReadyH.cons (o := _) rfl (fun K hK => ?_) AllReadyH.nil
                        refine stepS (by rfl) (.tmp 86) (.tmp 90) 34 (by rfl) V0.heap.size 38 j0 (.agg #[.string ByteArray.empty, .string ByteArray.empty]) 2 32 Try.underlying34 hj0 hy0 hy1 hy2 (by rfl) (by decide) _ _ _ (by rfl) HO.out _ 1 1 [.string y.p, .string m] (by rfl) rfl HX.out (by intro u hu; simp at hu; rcases hu with rfl | rfl <;> rfl) (by unfold maxLen; omega) (by omega) D.out.size ?_
                        intro v9 W9 ho9 hg9 _
                        have D := Lib.hid (D.out.grown hg9 D.out.size (fun g h => (ownS_blk HO.out h).2.1))
                        have HO := Lib.hid ho9
                        clear ho9 hg9 HX
                        refine hK.out _ _ trivial (fun hHeld => ?_)
                        clear hK K
                        (try simp only [Act.put, List.setIfInBounds_toArray, List.set_cons_zero, List.set_cons_succ])
                        refine wpAnyH_ready (rs := [13]) (by kernel_rfl) (by simp) ?_
                        refine AllReadyH.cons (o := _) rfl (fun K hK => ?_) AllReadyH.nil
                        refine stepS (by rfl) (.tmp 91) (.tmp 94) 34 (by rfl) V0.heap.size 38 j0 (.agg #[.string ByteArray.empty, .string ByteArray.empty]) 2 32 Try.underlying34 hj0 hy0 hy1 hy2 (by rfl) (by decide) _ _ _ (by rfl) HO.out (some (a4.add (out.length * 2))) (0) _ (bdCells (out.drop out.length)) (by rfl) LT13.out (SB.out.below LB.out D.out) bd_one (by unfold maxLen; omega) (by omega) D.out.size ?_
                        intro v13 W13 ho13 hg13 _
                        have D := Lib.hid (D.out.grown hg13 D.out.size (fun g h => (ownS_blk HO.out h).2.1))
                        have HO := Lib.hid ho13
                        clear ho13 hg13
                        refine hK.out _ _ trivial (fun hHeld => ?_)
                        clear hK K
                        (try simp only [Act.put, List.setIfInBounds_toArray, List.set_cons_zero, List.set_cons_succ])
                        --TAKES narthex/narthexref34.All:15 14
                        refine wpAnyH_take (i := 14) (oi := ({ dst := some 3, op := Op.assign (Operand.tmp 95), type := 34, pos := "ref.go:46", after := #[{ on := 13, ground := Ground.data }, { on := 13, ground := Ground.chain }, { on := 0, ground := Ground.phase }, { on := 1, ground := Ground.phase }, { on := 2, ground := Ground.phase }, { on := 3, ground := Ground.phase }, { on := 4, ground := Ground.phase }, { on := 5, ground := Ground.phase }, { on := 6, ground := Ground.phase }, { on := 7, ground := Ground.phase }, { on := 8, ground := Ground.phase }, { on := 9, ground := Ground.phase }, { on := 10, ground := Ground.phase }, { on := 11, ground := Ground.phase }, { on := 12, ground := Ground.phase }, { on := 13, ground := Ground.phase }], guard := none } : Oper)) (v := ?_) rfl (by kernel_rfl) (by kernel_rfl) (by kernel_rfl) (fun _ _ _ h => h) (Or.inl ⟨by rfl, ?_⟩) (by assumption) ?_
                        rotate_left 1
                        · intro w hSw; (try dsimp only at hSw); go_simp; try with_reducible rfl
                        (try simp only [Act.put, List.setIfInBounds_toArray, List.set_cons_zero, List.set_cons_succ])
                        --END
                        refine wpAnyH_done (by kernel_rfl) ?_ _
                        clear hHeld
                        have HB3 := Lib.hid (HBV.out.trans (D.out.mono HBV.out.size))
                        have HO3 : Hid (W13.ownsRow w.heap.size 38 2 v13 (allR bs (pre ++ f.take (k + 1))).length (bdCells (allR bs (pre ++ f.take (k + 1))))) := Lib.hid (by rw [HST.out]; exact insOwn (m2 := 0) (by omega) (ownS_low HO.out HBV.out.size) (by omega))
                        go_wp2
                        go_roundw
                        case rel => exact ⟨k + 1, by omega, by go_num, HO3, HB3⟩
                        case measure => simp [intOf]; omega
                      · go_simp
                        have HX := Lib.hid (twoS V0 (.string y.p) (.string m) 38)
                        have D := Lib.hid (D.out.alloc D.out.size (.cells #[.string y.p, .string m] 38))
                        generalize V0.alloc (.cells #[.string y.p, .string m] 38) = W4 at *
                        refine hK.out _ _ trivial (fun hHeld => ?_)
                        clear hK K
                        (try simp only [Act.put, List.setIfInBounds_toArray, List.set_cons_zero, List.set_cons_succ])
                        refine wpAnyH_ready (rs := [4]) (by kernel_rfl) (by simp) ?_
                        refine AllReadyH.cons (o := _) rfl (fun K hK => ?_) AllReadyH.nil
                        refine stepS (by rfl) (.tmp 82) (.tmp 85) 34 (by rfl) V0.heap.size 38 j0 (.agg #[.string ByteArray.empty, .string ByteArray.empty]) 2 32 Try.underlying34 hj0 hy0 hy1 hy2 (by rfl) (by decide) _ 0 [] (by rfl) (World.ownsRow_nil W4 V0.heap.size 38 2) (some a4) out.length _ (bdCells (out.take out.length)) (by rfl) LT4.out (SA.out.below LA.out D.out) bd_one (by unfold maxLen; omega) (by omega) D.out.size ?_
                        intro v4 W8 ho4 hg4 _
                        have HX := Lib.hid (srcGrown HX.out hg4 (fun ad hA => by simp [Value.ownBlock]))
                        have D := Lib.hid (D.out.grown hg4 D.out.size (fun g h => by cases h))
                        have HO := Lib.hid ho4
                        clear ho4 hg4
                        refine hK.out _ _ trivial (fun hHeld => ?_)
                        clear hK K
                        (try simp only [Act.put, List.setIfInBounds_toArray, List.set_cons_zero, List.set_cons_succ])
                        refine wpAnyH_ready (rs := [9]) (by kernel_rfl) (by simp) ?_
                        refine AllReadyH.cons (o := _) rfl (fun K hK => ?_) AllReadyH.nil
                        refine stepS (by rfl) (.tmp 86) (.tmp 90) 34 (by rfl) V0.heap.size 38 j0 (.agg #[.string ByteArray.empty, .string ByteArray.empty]) 2 32 Try.underlying34 hj0 hy0 hy1 hy2 (by rfl) (by decide) _ _ _ (by rfl) HO.out _ 1 1 [.string y.p, .string m] (by rfl) rfl HX.out (by intro u hu; simp at hu; rcases hu with rfl | rfl <;> rfl) (by unfold maxLen; omega) (by omega) D.out.size ?_
                        intro v9 W9 ho9 hg9 _
                        have D := Lib.hid (D.out.grown hg9 D.out.size (fun g h => (ownS_blk HO.out h).2.1))
                        have HO := Lib.hid ho9
                        clear ho9 hg9 HX
                        refine hK.out _ _ trivial (fun hHeld => ?_)
                        clear hK K
                        (try simp only [Act.put, List.setIfInBounds_toArray, List.set_cons_zero, List.set_cons_succ])
                        refine wpAnyH_ready (rs := [13]) (by kernel_rfl) (by simp) ?_
                        refine AllReadyH.cons (o := _) rfl (fun K hK => ?_) AllReadyH.nil
                        refine stepS (by rfl) (.tmp 91) (.tmp 94) 34 (by rfl) V0.heap.size 38 j0 (.agg #[.string ByteArray.empty, .string ByteArray.empty]) 2 32 Try.underlying34 hj0 hy0 hy1 hy2 (by rfl) (by decide) _ _ _ (by rfl) HO.out (some (a4.add (out.length * 2))) (0) _ (bdCells (out.drop out.length)) (by rfl) LT13.out (SB.out.below LB.out D.out) bd_one (by unfold maxLen; omega) (by omega) D.out.size ?_
                        intro v13 W13 ho13 hg13 _
                        have D := Lib.hid (D.out.grown hg13 D.out.size (fun g h => (ownS_blk HO.out h).2.1))
                        have HO := Lib.hid ho13
                        clear ho13 hg13
                        refine hK.out _ _ trivial (fun hHeld => ?_)
                        clear hK K
                        (try simp only [Act.put, List.setIfInBounds_toArray, List.set_cons_zero, List.set_cons_succ])
                        --TAKES narthex/narthexref34.All:15 14
                        refine wpAnyH_take (i := 14) (oi := ({ dst := some 3, op := Op.assign (Operand.tmp 95), type := 34, pos := "ref.go:46", after := #[{ on := 13, ground := Ground.data }, { on := 13, ground := Ground.chain }, { on := 0, ground := Ground.phase }, { on := 1, ground := Ground.phase }, { on := 2, ground := Ground.phase }, { on := 3, ground := Ground.phase }, { on := 4, ground := Ground.phase }, { on := 5, ground := Ground.phase }, { on := 6, ground := Ground.phase }, { on := 7, ground := Ground.phase }, { on := 8, ground := Ground.phase }, { on := 9, ground := Ground.phase }, { on := 10, ground := Ground.phase }, { on := 11, ground := Ground.phase }, { on := 12, ground := Ground.phase }, { on := 13, ground := Ground.phase }], guard := none } : Oper)) (v := ?_) rfl (by kernel_rfl) (by kernel_rfl) (by kernel_rfl) (fun _ _ _ h => h) (Or.inl ⟨by rfl, ?_⟩) (by assumption) ?_
                        rotate_left 1
                        · intro w hSw; (try dsimp only at hSw); go_simp; try with_reducible rfl
                        (try simp only [Act.put, List.setIfInBounds_toArray, List.set_cons_zero, List.set_cons_succ])
                        --END
                        refine wpAnyH_done (by kernel_rfl) ?_ _
                        clear hHeld
                        have HB3 := Lib.hid (HBV.out.trans (D.out.mono HBV.out.size))
                        have HO3 : Hid (W13.ownsRow w.heap.size 38 2 v13 (allR bs (pre ++ f.take (k + 1))).length (bdCells (allR bs (pre ++ f.take (k + 1))))) := Lib.hid (by rw [HST.out]; exact insOwn (m2 := 0) (by omega) (ownS_low HO.out HBV.out.size) (by omega))
                        go_wp2
                        go_roundw
                        case rel => exact ⟨k + 1, by omega, by go_num, HO3, HB3⟩
                        case measure => simp [intOf]; omega
                      --R15END
        · obtain rfl : k = f.length := by omega
          have d1 : ¬ (f.length : Int) < (f.length : Int) := by omega
          have HO3 : Hid (wr.ownsRow w.heap.size 38 2 (.slice A3 (allR bs (pre ++ f.take f.length)).length c3) (allR bs (ls.take (i + 1)).flatten).length (bdCells (allR bs (ls.take (i + 1)).flatten))) := Lib.hid (by have h := HO2.out; rw [List.take_length, ← HF.out] at h; rw [List.take_length, ← HF.out]; exact h)
          go_wp2
          go_roundw
          case rel => exact ⟨i + 1, by omega, by go_num, HO3, HB2⟩
          case measure => simp [intOf]; omega
    · obtain rfl : i = n := by omega
      have b1 : ¬ (i : Int) < (i : Int) := by omega
      obtain ⟨A3, c3, rfl, -, -, -⟩ := ownS_shape HO.out
      have hT : (ls.take i).flatten = bs := by rw [← HR.out.1, List.take_length]; exact HBS.out
      rw [hT]
      have HO2 : Hid (wr.ownsRow w.heap.size 38 2 (.slice A3 (allR bs bs).length c3) (allR bs bs).length (bdCells (allR bs bs))) := Lib.hid (by have h := HO.out; rwa [hT] at h)
      clear hT
      go_wp2
      go_ret
      exact ⟨A3, c3, rfl, HO2.out, HB.out⟩
end Go.Proofs.Ytbamcpnmabpacaa
