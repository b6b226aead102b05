/- Depths: along the order (the program), round by round (the reference); and where each stands. -/
import Derived.Test.YtignndcjblfocaaDoorGraphMarks
namespace Go.Proofs.YtignndcjblfocaaDoor.GraphPlain
/-- The most of a row's depths. -/
def mostN (d : List Nat) (r : List Nat) : Nat := r.foldl (fun m k => max m (sn d k)) 0
theorem mostN_go (d : List Nat) (r : List Nat) : ∀ m, r.foldl (fun m k => max m (sn d k)) m = max m (mostN d r) := by
  induction r with
  | nil => intro m; simp [mostN]
  | cons k r ih =>
    intro m
    show r.foldl _ (max m (sn d k)) = max m (r.foldl _ (max 0 (sn d k)))
    rw [ih, ih]
    omega
theorem mostN_snoc (d : List Nat) (r : List Nat) (k : Nat) : mostN d (r ++ [k]) = max (mostN d r) (sn d k) := by
  unfold mostN; rw [List.foldl_append]; rfl
theorem mostN_congr {d e : List Nat} {r : List Nat} (h : ∀ k ∈ r, sn d k = sn e k) : mostN d r = mostN e r := by
  induction r with
  | nil => rfl
  | cons k r ih =>
    show r.foldl _ (max 0 (sn d k)) = r.foldl _ (max 0 (sn e k))
    rw [mostN_go, mostN_go, h k (List.mem_cons_self ..), ih fun x hx => h x (List.mem_cons_of_mem _ hx)]
theorem mostN_ge {d : List Nat} {r : List Nat} {k : Nat} (h : k ∈ r) : sn d k ≤ mostN d r := by
  induction r with
  | nil => cases h
  | cons x r ih =>
    show _ ≤ r.foldl _ (max 0 (sn d x))
    rw [mostN_go]
    rcases List.mem_cons.1 h with rfl | h
    · omega
    · have := ih h; omega
theorem mostN_le {d : List Nat} {r : List Nat} {b : Nat} (h : ∀ k ∈ r, sn d k ≤ b) : mostN d r ≤ b := by
  induction r with
  | nil => exact Nat.zero_le _
  | cons x r ih =>
    show r.foldl _ (max 0 (sn d x)) ≤ b
    rw [mostN_go]
    have h1 := h x (List.mem_cons_self ..)
    have h2 := ih fun k hk => h k (List.mem_cons_of_mem _ hk)
    omega
/-- One place's depth. -/
def deepI (G : Gr) (d : List Nat) (i : Nat) : List Nat := d.set i (mostN d (row G i) + 1)
/-- Along a row of places. -/
def deepO (G : Gr) (l : List Nat) : List Nat := l.foldl (deepI G) (List.replicate G.length 0)
theorem deepO_snoc (G : Gr) (l : List Nat) (i : Nat) : deepO G (l ++ [i]) = deepI G (deepO G l) i := by unfold deepO; rw [List.foldl_append]; rfl
theorem deepF_len (G : Gr) (l : List Nat) : ∀ d, (l.foldl (deepI G) d).length = d.length := by
  induction l with
  | nil => intro d; rfl
  | cons i l ih => intro d; exact (ih _).trans (by simp [deepI])
theorem deepO_len (G : Gr) (l : List Nat) : (deepO G l).length = G.length := (deepF_len G l _).trans (by simp)
theorem sn_zero (n x : Nat) : sn (List.replicate n 0) x = 0 := by
  unfold sn
  rw [List.getD_eq_getElem?_getD]
  rcases Nat.lt_or_ge x n with h | h
  · rw [List.getElem?_eq_getElem (by simpa using h)]; simp
  · rw [List.getElem?_eq_none (by simpa using h)]; rfl
theorem Good.succ {G : Gr} {l : List Nat} (h : Good G l) : ∀ x ∈ l, ∀ j ∈ row G x, j ∈ l := by
  intro x hx j hj
  exact (h.ways x hx j (.one hj)).1
theorem Good.bound {G : Gr} {l : List Nat} (h : Good G l) : ∀ x ∈ l, x < G.length := by
  induction h with
  | nil => intro x hx; cases hx
  | snoc h1 h2 h3 h4 ih =>
    intro x hx
    rcases List.mem_append.1 hx with hx | hx
    · exact ih x hx
    · obtain rfl : x = _ := List.mem_singleton.1 hx
      exact h2
def DeepEq (G : Gr) (d : List Nat) (l : List Nat) : Prop := ∀ x ∈ l, sn d x = mostN d (row G x) + 1
theorem sn_deepI {G : Gr} {d : List Nat} {i : Nat} (hi : i < d.length) (x : Nat) : sn (deepI G d i) x = if x = i then mostN d (row G i) + 1 else sn d x := by
  unfold deepI
  rw [sn_set]
  by_cases e : x = i
  · rw [if_pos ⟨e, hi⟩, if_pos e]
  · rw [if_neg (fun h => e h.1), if_neg e]
theorem deepO_eq {G : Gr} {l : List Nat} (h : Good G l) : DeepEq G (deepO G l) l := by
  induction h with
  | nil => intro x hx; cases hx
  | snoc h1 h2 h3 h4 ih =>
    rename_i l a
    have hl : a < (deepO G l).length := by rw [deepO_len]; exact h2
    have keep : ∀ r : List Nat, a ∉ r → mostN (deepI G (deepO G l) a) r = mostN (deepO G l) r := fun r hr => mostN_congr fun k hk => by
      rw [sn_deepI hl, if_neg (fun (e : k = a) => hr (e ▸ hk))]
    intro x hx
    rw [deepO_snoc, sn_deepI hl]
    by_cases e : x = a
    · subst e
      rw [if_pos rfl, keep _ fun hm => h3 (h4 _ hm)]
    · rw [if_neg e]
      have hx : x ∈ l := by
        rcases List.mem_append.1 hx with hx | hx
        · exact hx
        · exact absurd (List.mem_singleton.1 hx) e
      rw [keep _ fun hm => h3 (h1.succ x hx a hm)]
      exact ih x hx
theorem deepO_zero {G : Gr} {l : List Nat} (h : Good G l) : ∀ i, i ∉ l → sn (deepO G l) i = 0 := by
  induction h with
  | nil => intro i _; unfold deepO; rw [List.foldl_nil, sn_zero]
  | snoc h1 h2 h3 h4 ih =>
    intro i hi
    rw [deepO_snoc, sn_deepI (by rw [deepO_len]; exact h2), if_neg (fun e => hi (by rw [e]; simp))]
    exact ih i fun hm => hi (List.mem_append_left _ hm)
theorem Good.init {G : Gr} {l : List Nat} (h : Good G l) : ∀ m, Good G (l.take m) := by
  induction h with
  | nil => intro m; simpa using Good.nil
  | snoc h1 h2 h3 h4 ih =>
    rename_i l i
    intro m
    rcases Nat.lt_or_ge l.length m with hm | hm
    · rw [List.take_of_length_le (by simp; omega)]; exact .snoc h1 h2 h3 h4
    · rw [List.take_append_of_le_length hm]; exact ih m
def deepTo (G : Gr) (d : List Nat) : Nat → List Nat
  | 0 => d
  | i + 1 => deepI G (deepTo G d i) i
def deepR (G : Gr) : Nat → List Nat
  | 0 => List.replicate G.length 0
  | m + 1 => deepTo G (deepR G m) G.length
def depthsN (G : Gr) : List Nat := deepR G (G.length + 1)
theorem deepTo_len (G : Gr) (d : List Nat) (i : Nat) : (deepTo G d i).length = d.length := by
  induction i with
  | zero => rfl
  | succ i ih => unfold deepTo deepI; rw [List.length_set]; exact ih
theorem deepR_len (G : Gr) (m : Nat) : (deepR G m).length = G.length := by
  induction m with
  | zero => simp [deepR]
  | succ m ih => exact (deepTo_len ..).trans ih
def Agree (D : List Nat) (l : List Nat) (d : List Nat) : Prop := ∀ x ∈ l, sn d x = sn D x
theorem agree_pass {G : Gr} {D d l : List Nat} (hs : ∀ x ∈ l, ∀ j ∈ row G x, j ∈ l) (hD : DeepEq G D l) (hd : d.length = G.length) (h : Agree D l d) : ∀ m, m ≤ G.length → Agree D l (deepTo G d m) := by
  intro m
  induction m with
  | zero => intro _; exact h
  | succ m ih =>
    intro hm x hx
    have ih := ih (by omega)
    unfold deepTo
    rw [sn_deepI (by rw [deepTo_len, hd]; omega)]
    by_cases e : x = m
    · subst e
      rw [if_pos rfl, hD x hx, mostN_congr fun k hk => ih k (hs x hx k hk)]
    · rw [if_neg e]; exact ih x hx
theorem agree_new {G : Gr} {D d l : List Nat} {a : Nat} (hs : ∀ x ∈ l, ∀ j ∈ row G x, j ∈ l) (hD : DeepEq G D (l ++ [a])) (hd : d.length = G.length) (h : Agree D l d) (h4 : ∀ j ∈ row G a, j ∈ l) : ∀ m, m ≤ G.length → a < m → sn (deepTo G d m) a = sn D a := by
  intro m
  induction m with
  | zero => intro _ h; omega
  | succ m ih =>
    intro hm ha
    unfold deepTo
    rw [sn_deepI (by rw [deepTo_len, hd]; omega)]
    by_cases e : a = m
    · subst e
      rw [if_pos rfl, hD a (by simp), mostN_congr fun k hk => agree_pass hs (fun x hx => hD x (List.mem_append_left _ hx)) hd h a (by omega) k (h4 k hk)]
    · rw [if_neg e]; exact ih (by omega) (by omega)
theorem agree_rounds {G : Gr} {D l : List Nat} (hg : Good G l) (hD : DeepEq G D l) : ∀ m, l.length ≤ m → Agree D l (deepR G m) := by
  induction hg with
  | nil => intro m _ x hx; cases hx
  | snoc h1 h2 h3 h4 ih =>
    rename_i l a
    intro m hm
    cases m with
    | zero => simp at hm
    | succ m =>
      have hD' : DeepEq G D l := fun x hx => hD x (List.mem_append_left _ hx)
      have h5 := ih hD' m (by simp at hm; omega)
      intro x hx
      rcases List.mem_append.1 hx with hx | hx
      · exact agree_pass h1.succ hD' (deepR_len ..) h5 _ (Nat.le_refl _) x hx
      · obtain rfl : x = a := List.mem_singleton.1 hx
        exact agree_new h1.succ hD (deepR_len ..) h5 h4 _ (Nat.le_refl _) h2
theorem list_ext_sn {t u : List Nat} (hl : t.length = u.length) (h : ∀ x, x < t.length → sn t x = sn u x) : t = u := by
  apply List.ext_getElem hl
  intro i h1 h2
  have := h i h1
  unfold sn at this
  rw [List.getD_eq_getElem?_getD, List.getD_eq_getElem?_getD, List.getElem?_eq_getElem h1, List.getElem?_eq_getElem h2] at this
  simpa using this
/-- Both ways to reckon the depths tell the same. -/
theorem depths_same {G : Gr} {l : List Nat} (hg : Good G l) (hl : l.length = G.length) : deepO G l = depthsN G := by
  refine list_ext_sn ((deepO_len ..).trans (deepR_len ..).symm) fun x hx => ?_
  rw [deepO_len] at hx
  exact (agree_rounds hg (deepO_eq hg) _ (by omega) x (hg.full hl x hx)).symm
/-! How great -/
theorem deepI_le {G : Gr} {d : List Nat} {b i : Nat} (hi : i < d.length) (h : ∀ x, sn d x ≤ b) (x : Nat) : sn (deepI G d i) x ≤ b + 1 := by
  rw [sn_deepI hi]
  have h1 := mostN_le (r := row G i) fun k _ => h k
  have h2 := h x
  split <;> omega
theorem deepTo_le {G : Gr} {d : List Nat} {b : Nat} (hd : d.length = G.length) (h : ∀ x, sn d x ≤ b) : ∀ m, m ≤ G.length → ∀ x, sn (deepTo G d m) x ≤ b + m := by
  intro m
  induction m with
  | zero => intro _; exact h
  | succ m ih => intro hm x; exact deepI_le (by rw [deepTo_len, hd]; omega) (ih (by omega)) x
theorem deepR_le (G : Gr) : ∀ m x, sn (deepR G m) x ≤ m * G.length := by
  intro m
  induction m with
  | zero => intro x; unfold deepR; rw [sn_zero]; exact Nat.zero_le _
  | succ m ih =>
    intro x
    have := deepTo_le (deepR_len G m) ih _ (Nat.le_refl _) x
    rw [Nat.succ_mul]; exact this
theorem deepO_le {G : Gr} {l : List Nat} (hg : Good G l) : ∀ x, sn (deepO G l) x ≤ l.length := by
  induction hg with
  | nil => intro x; unfold deepO; rw [List.foldl_nil, sn_zero]; exact Nat.zero_le _
  | snoc h1 h2 h3 h4 ih => intro x; rw [deepO_snoc, List.length_append]; exact deepI_le (by rw [deepO_len]; exact h2) ih x
/-! Where each stands -/
def placeTo (G : Gr) (l : List Nat) : Nat → List Nat
  | 0 => List.replicate G.length 0
  | m + 1 => (placeTo G l m).set (sn l m) m
theorem placeTo_len (G : Gr) (l : List Nat) (m : Nat) : (placeTo G l m).length = G.length := by
  induction m with
  | zero => simp [placeTo]
  | succ m ih => unfold placeTo; rw [List.length_set]; exact ih
theorem sn_app (l r : List Nat) (k : Nat) (h : k < l.length) : sn (l ++ r) k = sn l k := by
  unfold sn; rw [List.getD_eq_getElem?_getD, List.getD_eq_getElem?_getD, List.getElem?_append_left h]
theorem sn_last (l : List Nat) (a : Nat) : sn (l ++ [a]) l.length = a := by
  unfold sn; rw [List.getD_eq_getElem?_getD, List.getElem?_append_right (Nat.le_refl _)]; simp
theorem sn_mem {l : List Nat} {k : Nat} (h : k < l.length) : sn l k ∈ l := by
  unfold sn; rw [List.getD_eq_getElem?_getD, List.getElem?_eq_getElem h]; exact List.getElem_mem h
theorem mem_sn {l : List Nat} {x : Nat} (h : x ∈ l) : ∃ k, k < l.length ∧ sn l k = x := by
  obtain ⟨k, hk, e⟩ := List.getElem_of_mem h
  refine ⟨k, hk, ?_⟩
  unfold sn; rw [List.getD_eq_getElem?_getD, List.getElem?_eq_getElem hk]; exact e
theorem Good.apart {G : Gr} {l : List Nat} (h : Good G l) : ∀ a b, a < l.length → b < l.length → sn l a = sn l b → a = b := by
  induction h with
  | nil => intro a b ha; cases ha
  | snoc h1 h2 h3 h4 ih =>
    rename_i l i
    intro a b ha hb e
    simp at ha hb
    by_cases ea : a = l.length
    · by_cases eb : b = l.length
      · omega
      · subst ea
        rw [sn_last, sn_app _ _ _ (by omega)] at e
        exact absurd (e ▸ sn_mem (by omega)) h3
    · by_cases eb : b = l.length
      · subst eb
        rw [sn_last, sn_app _ _ _ (by omega)] at e
        exact absurd (e ▸ sn_mem (by omega)) h3
      · rw [sn_app _ _ _ (by omega), sn_app _ _ _ (by omega)] at e
        exact ih a b (by omega) (by omega) e
theorem Good.before {G : Gr} {l : List Nat} (h : Good G l) : ∀ a, a < l.length → ∀ j ∈ row G (sn l a), ∃ b, b < a ∧ sn l b = j := by
  induction h with
  | nil => intro a ha; cases ha
  | snoc h1 h2 h3 h4 ih =>
    rename_i l i
    intro a ha j hj
    simp at ha
    by_cases ea : a = l.length
    · subst ea
      rw [sn_last] at hj
      obtain ⟨b, hb, e⟩ := mem_sn (h4 j hj)
      exact ⟨b, hb, by rw [sn_app _ _ _ hb]; exact e⟩
    · rw [sn_app _ _ _ (by omega)] at hj
      obtain ⟨b, hb, e⟩ := ih a (by omega) j hj
      exact ⟨b, hb, by rw [sn_app _ _ _ (by omega)]; exact e⟩
theorem place_at {G : Gr} {l : List Nat} (h : Good G l) : ∀ m, m ≤ l.length → ∀ k, k < m → sn (placeTo G l m) (sn l k) = k := by
  intro m
  induction m with
  | zero => intro _ k hk; omega
  | succ m ih =>
    intro hm k hk
    unfold placeTo
    rw [sn_set, placeTo_len]
    by_cases e : k = m
    · subst e; rw [if_pos ⟨rfl, h.bound _ (sn_mem (by omega))⟩]
    · rw [if_neg fun h' => e (h.apart k m (by omega) (by omega) h'.1)]
      exact ih (by omega) k (by omega)
theorem Good.lastOf {G : Gr} {l' : List Nat} (h : Good G l') : ∀ (t : List Nat) (x : Nat), l' = t ++ [x] → x ∉ t ∧ (∀ j ∈ row G x, j ∈ t) := by
  cases h with
  | nil => intro t x e; simp at e
  | snoc h1 h2 h3 h4 =>
    intro t x e
    obtain ⟨rfl, e2⟩ := List.append_inj' e rfl
    obtain rfl := by simpa using e2
    exact ⟨h3, h4⟩
theorem take_sn {l : List Nat} {m : Nat} (hm : m < l.length) : l.take (m + 1) = l.take m ++ [sn l m] := by
  unfold sn
  rw [List.take_add_one, List.getD_eq_getElem?_getD, List.getElem?_eq_getElem hm]; rfl
theorem Good.newAt {G : Gr} {l : List Nat} (h : Good G l) {m : Nat} (hm : m < l.length) : sn l m ∉ l.take m ∧ (∀ j ∈ row G (sn l m), j ∈ l.take m) := (h.init (m + 1)).lastOf _ _ (take_sn hm)
/-- Each stands behind those to which it leads, and is deeper. -/
theorem behind {G : Gr} {l : List Nat} (h : Good G l) (hl : l.length = G.length) {i j : Nat} (hj : j ∈ row G i) :
    sn (placeTo G l l.length) j < sn (placeTo G l l.length) i ∧ sn (deepO G l) j < sn (deepO G l) i := by
  obtain ⟨a, ha, ea⟩ := mem_sn (h.full hl i (row_lt hj))
  subst ea
  obtain ⟨b, hb, eb⟩ := h.before a ha j hj
  refine ⟨?_, ?_⟩
  · rw [← eb, place_at h _ (Nat.le_refl _) a ha, place_at h _ (Nat.le_refl _) b (by omega)]; exact hb
  · rw [deepO_eq h _ (sn_mem ha)]
    have := mostN_ge (d := deepO G l) hj
    omega
end Go.Proofs.YtignndcjblfocaaDoor.GraphPlain
