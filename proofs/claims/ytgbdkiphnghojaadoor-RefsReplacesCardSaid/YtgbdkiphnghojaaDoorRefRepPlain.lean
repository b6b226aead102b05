/- Plain facts on a text whose references are replaced. -/
import Derived.Test.YtgbdkiphnghojaaDoorRefCutPlain
namespace Go.Proofs.YtgbdkiphnghojaaDoor
open Go.RowKit Go.Proofs.YtgbdkiphnghojaaDoor.UtfPlain Go.Proofs.YtgbdkiphnghojaaDoor.CharsPlain Go.Proofs.YtgbdkiphnghojaaDoor.NamePlain Go.Proofs.YtgbdkiphnghojaaDoor.RefPlain
/-- The text so far: what stands between, and for each reference what f says. -/
def repG (f : RefR → ByteArray) (s : ByteArray) : Nat → List RefR → ByteArray
  | _, [] => ⟨#[]⟩
  | at_, x :: l => (s.extract at_ x.a ++ f x) ++ repG f s x.b l
theorem emp_app (s : ByteArray) : (⟨#[]⟩ : ByteArray) ++ s = s := by
  apply Go.WideShapes.bytes_inj
  rw [ByteArray.data_append, Array.toList_append]; rfl
theorem app_emp (s : ByteArray) : s ++ (⟨#[]⟩ : ByteArray) = s := by
  apply Go.WideShapes.bytes_inj
  rw [ByteArray.data_append, Array.toList_append]
  exact List.append_nil _
theorem repG_snoc (f : RefR → ByteArray) (s : ByteArray) (l : List RefR) (x : RefR) : ∀ at_, repG f s at_ (l ++ [x]) = repG f s at_ l ++ (s.extract (lastB at_ l) x.a ++ f x) := by
  induction l with
  | nil => intro at_; simp only [List.nil_append, repG, lastB]; rw [app_emp, emp_app]
  | cons y l ih => intro at_; simp only [List.cons_append, repG, lastB]; rw [ih]; simp only [ByteArray.append_assoc]
def repN (f : RefR → ByteArray) (s : ByteArray) : ByteArray := repG f s 0 (refsN (bsOf s)) ++ s.extract (lastB 0 (refsN (bsOf s))) s.size
theorem ext_glue3 (s : ByteArray) (h i j : Nat) (h1 : h ≤ i) (h2 : i ≤ j) : s.extract h i ++ s.extract i j = s.extract h j := by
  apply Go.WideShapes.bytes_inj
  rw [ByteArray.data_append, Array.toList_append, Lib.extract_data, Lib.extract_data, Lib.extract_data]
  obtain ⟨c, rfl⟩ : ∃ c, i = h + c := ⟨i - h, by omega⟩
  obtain ⟨d, rfl⟩ : ∃ d, j = h + c + d := ⟨j - (h + c), by omega⟩
  rw [show h + c - h = c by omega, show h + c + d - (h + c) = d by omega, show h + c + d - h = c + d by omega, List.take_add, List.drop_drop]
/-- Where each is replaced by itself, the text is as it was. -/
theorem repG_same (f : RefR → ByteArray) (s : ByteArray) (hf : ∀ x, f x = ⟨#[38]⟩ ++ strOfNums x.s ++ ⟨#[59]⟩) (l : List RefR) : ∀ at_, at_ ≤ s.size → Chain s at_ l → repG f s at_ l ++ s.extract (lastB at_ l) s.size = s.extract at_ s.size := by
  induction l with
  | nil => intro at_ _ _; simp only [repG, lastB]; exact emp_app _
  | cons x l ih =>
    intro at_ _ h
    simp only [repG, lastB]
    rw [ByteArray.append_assoc, ih x.b h.2.2.1 h.2.2.2.2, hf, ← h.2.2.2.1, ext_glue3 s at_ x.a x.b h.1 (by have := h.2.1; omega), ext_glue3 s at_ x.b s.size (by have := h.1; have := h.2.1; omega) h.2.2.1]
theorem repN_same (f : RefR → ByteArray) (s : ByteArray) (hf : ∀ x, f x = ⟨#[38]⟩ ++ strOfNums x.s ++ ⟨#[59]⟩) : repN f s = s := by
  unfold repN
  rw [repG_same f s hf _ 0 (Nat.zero_le _) (refsN_chain s), ext_all]
end Go.Proofs.YtgbdkiphnghojaaDoor
