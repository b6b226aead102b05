/- The walk of OracleOnly. Conditions: internal/bytealg.MaxLen holds an int. -/
import Derived.Test.YtkpefendeonemaaDoorOrAgree
import Derived.Test.YtkpefendeonemaaDoorOrLaw
import Derived.Test.YtkpefendeonemaaDoorOrLive
namespace Go.Proofs.YtkpefendeonemaaDoor
open Go.RowKit Go.Maps Go.Proofs.YtkpefendeonemaaDoor.UriPlain
set_option linter.unusedVariables false
set_option linter.unusedSimpArgs false
set_option maxRecDepth 100000 in
set_option maxHeartbeats 8000000 in
theorem oracleOnly_any (A : Option Addr) (n c : Nat) (l : List An) (B : Option Addr) (p d : Nat) (L : List ByteArray) (w : World) (m : Int) (hl : AnsAt w A n l) (hn : n ≤ 9223372036854775807) (hL : TsAt w B p L) (hp : p ≤ 9223372036854775807) (hm : w.cell? ⟨0, 0, none⟩ = some (.int .i64 m)) :
    Calls Tryd.prog 4 #[.slice A n c, .slice B p d] w (BelB true w) := by
  obtain rfl := hl.1
  have G := great23_any A l.length c l w hn hl
  have CL := Lib.hid (fun W (hb : Below w.heap.size w W) => live23_any W m (max0_below hm hb))
  cases hg : greatA l with
  | true =>
    rw [hg] at G
    have G := Lib.hid G
    clear hl hm hg hL
    go_enter Tryd.func4, Tryd.ntmps4
    go_wp2_with fail
    refine G.out.mono ?_
    rintro e w1 ⟨rfl, rfl⟩
    go_wp2_with fail
    refine (CL.out w (Below.refl _ _)).mono ?_
    rintro e w16 ⟨rfl, hB16⟩
    go_wp2
    go_ret
    exact ⟨rfl, hB16⟩
  | false =>
    rw [hg] at G
    have G := Lib.hid G
    obtain ⟨hl260, hxs⟩ := greatA_no hg
    have GL := Lib.hid (great22_any B p d L w hL hp)
    have HA := Lib.hid hl
    have HT := Lib.hid hL
    have HM := Lib.hid hm
    have HXS := Lib.hid hxs
    clear hl hL hm hg hxs
    go_enter Tryd.func4, Tryd.ntmps4
    go_wp2_with fail
    refine G.out.mono ?_
    rintro e w1 ⟨rfl, rfl⟩
    go_wp2_with fail
    refine GL.out.mono ?_
    rintro e w1 ⟨b, rfl, rfl, hb⟩
    cases b with
    | true =>
      clear hb
      go_wp2_with fail
      refine (CL.out w (Below.refl _ _)).mono ?_
      rintro e w16 ⟨rfl, hB16⟩
      go_wp2
      go_ret
      exact ⟨rfl, hB16⟩
    | false =>
      obtain ⟨hL80, hL300⟩ := hb rfl
      have hp80 : p ≤ 80 := by rw [← HT.out.1]; exact hL80
      have hS : Shorts L := fun x hx => Nat.le_trans (hL300 x hx) (by decide)
      have hx20 : ∀ x ∈ l, x.n ≤ 1048576 := fun x hx => Nat.le_trans (HXS.out x hx).2 (by decide)
      have C1 := Lib.hid (only_any A l.length c l B p d L w m HA.out (by omega) hx20 HT.out (by omega) hS HM.out)
      have C2 := Lib.hid (fun W (hb : Below w.heap.size w W) => ronly_any A l.length c l B p d L W (HA.out.below hb) (by omega) (HT.out.below hb) (by omega) hS)
      have HS := Lib.hid hS
      have HX := Lib.hid hx20
      clear hb hL80 hL300 hS hx20 G GL
      go_wp2_with fail
      refine C1.out.mono ?_
      rintro e w2 ⟨A2, c2, ys, rfl, hys, -, -, hrow, hB2⟩
      have hyl : ys.length ≤ 260 := by
        have h := congrArg List.length hys
        have h2 := onlyA_len L (l.map An.pl)
        rw [List.length_map] at h h2
        omega
      have hyn : ∀ x ∈ ys, x.n ≤ 1048576 := by
        intro x hx
        have h1 := (hrow.2 x hx).ok.1.1
        have h2 : x.pl ∈ onlyA L (l.map An.pl) := by rw [← hys]; exact List.mem_map.2 ⟨x, hx, rfl⟩
        obtain ⟨x', hx', e⟩ := List.mem_map.1 (List.mem_filter.1 h2).1
        have h3 := (HA.out.ok x' hx').1.1
        have h4 : x'.da = x.da := congrArg AnP.da e
        rw [← h1, ← h4, h3]; exact HX.out x' hx'
      have HAT := Lib.hid hrow.at
      have HYS := Lib.hid hys
      have HYN := Lib.hid hyn
      have HB2 := Lib.hid hB2
      clear hys hrow hyn C1
      go_wp2_with fail
      refine (C2.out w2 HB2.out).mono ?_
      rintro e w3 ⟨A3, c3, zs, rfl, hzs, -, -, haz, hB3⟩
      have HB3 := Lib.hid (HB2.out.trans (hB3.mono HB2.out.size))
      have HAT := Lib.hid (HAT.out.below hB3)
      have S := Lib.hid (same_any A2 ys.length c2 ys A3 zs.length c3 zs w3 HAT.out haz (HYS.out.trans hzs.symm) (by omega))
      clear hzs haz hB3 C2
      go_wp2_with fail
      refine S.out.mono ?_
      rintro e w4 ⟨rfl, hB4⟩
      have HB4 := Lib.hid (HB3.out.trans (hB4.mono HB3.out.size))
      have HAT := Lib.hid (HAT.out.below hB4)
      have AG := agree_same A l.length c l A2 ys.length c2 ys B p d L w4 m (HA.out.below HB4.out) (by omega) HX.out HAT.out (by omega) HYN.out (HT.out.below HB4.out) (by omega) HS.out (max0_below HM.out HB4.out) (by rw [HYS.out, onlyA_only])
      have AG := Lib.hid AG
      clear hB4 S
      go_wp2_with fail
      refine AG.out.mono ?_
      rintro e w5 ⟨rfl, hB5⟩
      have HB5 := Lib.hid (HB4.out.trans (hB5.mono HB4.out.size))
      clear hB5 AG
      go_wp2_with fail
      refine (CL.out w5 HB5.out).mono ?_
      rintro e w16 ⟨rfl, hB16⟩
      go_wp2
      go_ret
      exact ⟨rfl, HB5.out.trans (hB16.mono HB5.out.size)⟩
end Go.Proofs.YtkpefendeonemaaDoor
