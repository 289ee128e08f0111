/- Points and freed points as the program holds them: eight and sixteen words. Plain lemmas, no conditions. -/
import Derived.Test.YtggbjpebdmlahaaIter
namespace Go.Num
open Go Go.RowKit

abbrev pt (x y : Nat) : Value := .agg #[.int .u64 (wd x 0), .int .u64 (wd x 1), .int .u64 (wd x 2), .int .u64 (wd x 3), .int .u64 (wd y 0), .int .u64 (wd y 1), .int .u64 (wd y 2), .int .u64 (wd y 3)]
abbrev cellsP (x y : Nat) : Array Value := #[.int .u64 (wd x 0), .int .u64 (wd x 1), .int .u64 (wd x 2), .int .u64 (wd x 3), .int .u64 (wd y 0), .int .u64 (wd y 1), .int .u64 (wd y 2), .int .u64 (wd y 3)]
abbrev cellsF (x y z t : Nat) : Array Value := #[.int .u64 (wd x 0), .int .u64 (wd x 1), .int .u64 (wd x 2), .int .u64 (wd x 3), .int .u64 (wd y 0), .int .u64 (wd y 1), .int .u64 (wd y 2), .int .u64 (wd y 3),
  .int .u64 (wd z 0), .int .u64 (wd z 1), .int .u64 (wd z 2), .int .u64 (wd z 3), .int .u64 (wd t 0), .int .u64 (wd t 1), .int .u64 (wd t 2), .int .u64 (wd t 3)]
abbrev fre (x y z t : Nat) : Value := .agg #[.int .u64 (wd x 0), .int .u64 (wd x 1), .int .u64 (wd x 2), .int .u64 (wd x 3), .int .u64 (wd y 0), .int .u64 (wd y 1), .int .u64 (wd y 2), .int .u64 (wd y 3),
  .int .u64 (wd z 0), .int .u64 (wd z 1), .int .u64 (wd z 2), .int .u64 (wd z 3), .int .u64 (wd t 0), .int .u64 (wd t 1), .int .u64 (wd t 2), .int .u64 (wd t 3)]

theorem hp_setL {w : World} {b o : Nat} {l : List Value} {t : TypeId} {v : Value} (h : w.heap[b]? = some (.cells l.toArray t)) : (w.setCell ⟨b, o, none⟩ v).heap[b]? = some (.cells (l.set o v).toArray t) := by
  rw [hp_set h, List.setIfInBounds_toArray]
def st4v (w : World) (b : Nat) (x0 x1 x2 x3 : Value) : World := ((((w).setCell ⟨b, 0, none⟩ x0).setCell ⟨b, 1, none⟩ x1).setCell ⟨b, 2, none⟩ x2).setCell ⟨b, 3, none⟩ x3
theorem st4v_eq (w : World) (b : Nat) (x0 x1 x2 x3 : Value) : ((((w).setCell ⟨b, 0, none⟩ x0).setCell ⟨b, 1, none⟩ x1).setCell ⟨b, 2, none⟩ x2).setCell ⟨b, 3, none⟩ x3 = st4v w b x0 x1 x2 x3 := rfl
theorem st4v_at {w : World} {b : Nat} {x0 x1 x2 x3 y0 y1 y2 y3 : Value} {t : TypeId} (h : w.heap[b]? = some (.cells #[y0, y1, y2, y3] t)) : (st4v w b x0 x1 x2 x3).heap[b]? = some (.cells #[x0, x1, x2, x3] t) := by
  have h0 := hp_setL (o := 0) (v := x0) h
  simp only [List.set_cons_zero] at h0
  have h1 := hp_setL (o := 1) (v := x1) h0
  simp only [List.set_cons_zero, List.set_cons_succ] at h1
  have h2 := hp_setL (o := 2) (v := x2) h1
  simp only [List.set_cons_zero, List.set_cons_succ] at h2
  have h3 := hp_setL (o := 3) (v := x3) h2
  simp only [List.set_cons_zero, List.set_cons_succ] at h3
  exact h3
theorem st4v_other {w : World} {b b' : Nat} {x0 x1 x2 x3 : Value} {o : Obj} (h : w.heap[b']? = some o) (hne : b' ≠ b) : (st4v w b x0 x1 x2 x3).heap[b']? = some o :=
  hp_set_ne (hp_set_ne (hp_set_ne (hp_set_ne (h) hne) hne) hne) hne
theorem st4v_below {w w' : World} {B b : Nat} {x0 x1 x2 x3 : Value} (h : Below B w w') (hb : B ≤ b) : Below B w (st4v w' b x0 x1 x2 x3) :=
  ((((h).setCell (p := ⟨b, 0, none⟩) hb _).setCell (p := ⟨b, 1, none⟩) hb _).setCell (p := ⟨b, 2, none⟩) hb _).setCell (p := ⟨b, 3, none⟩) hb _
theorem st4v_keeps (X : World) (b : Nat) (x0 x1 x2 x3 : Value) : KeepsOthers X (st4v X b x0 x1 x2 x3) :=
  (((KeepsOthers.setCell _ _ _).trans (KeepsOthers.setCell _ _ _)).trans (KeepsOthers.setCell _ _ _)).trans (KeepsOthers.setCell _ _ _)
theorem KeepB.st4v {nb b : Nat} {x0 x1 x2 x3 : Value} {X X' : World} (h : KeepB nb X X') (hne : nb ≠ b) : KeepB nb X (st4v X' b x0 x1 x2 x3) := fun o ho => st4v_other (h o ho) hne
def st8v (w : World) (b : Nat) (x0 x1 x2 x3 x4 x5 x6 x7 : Value) : World := ((((((((w).setCell ⟨b, 0, none⟩ x0).setCell ⟨b, 1, none⟩ x1).setCell ⟨b, 2, none⟩ x2).setCell ⟨b, 3, none⟩ x3).setCell ⟨b, 4, none⟩ x4).setCell ⟨b, 5, none⟩ x5).setCell ⟨b, 6, none⟩ x6).setCell ⟨b, 7, none⟩ x7
theorem st8v_eq (w : World) (b : Nat) (x0 x1 x2 x3 x4 x5 x6 x7 : Value) : ((((((((w).setCell ⟨b, 0, none⟩ x0).setCell ⟨b, 1, none⟩ x1).setCell ⟨b, 2, none⟩ x2).setCell ⟨b, 3, none⟩ x3).setCell ⟨b, 4, none⟩ x4).setCell ⟨b, 5, none⟩ x5).setCell ⟨b, 6, none⟩ x6).setCell ⟨b, 7, none⟩ x7 = st8v w b x0 x1 x2 x3 x4 x5 x6 x7 := rfl
theorem st8v_at {w : World} {b : Nat} {x0 x1 x2 x3 x4 x5 x6 x7 y0 y1 y2 y3 y4 y5 y6 y7 : Value} {t : TypeId} (h : w.heap[b]? = some (.cells #[y0, y1, y2, y3, y4, y5, y6, y7] t)) : (st8v w b x0 x1 x2 x3 x4 x5 x6 x7).heap[b]? = some (.cells #[x0, x1, x2, x3, x4, x5, x6, x7] t) := by
  have h0 := hp_setL (o := 0) (v := x0) h
  simp only [List.set_cons_zero] at h0
  have h1 := hp_setL (o := 1) (v := x1) h0
  simp only [List.set_cons_zero, List.set_cons_succ] at h1
  have h2 := hp_setL (o := 2) (v := x2) h1
  simp only [List.set_cons_zero, List.set_cons_succ] at h2
  have h3 := hp_setL (o := 3) (v := x3) h2
  simp only [List.set_cons_zero, List.set_cons_succ] at h3
  have h4 := hp_setL (o := 4) (v := x4) h3
  simp only [List.set_cons_zero, List.set_cons_succ] at h4
  have h5 := hp_setL (o := 5) (v := x5) h4
  simp only [List.set_cons_zero, List.set_cons_succ] at h5
  have h6 := hp_setL (o := 6) (v := x6) h5
  simp only [List.set_cons_zero, List.set_cons_succ] at h6
  have h7 := hp_setL (o := 7) (v := x7) h6
  simp only [List.set_cons_zero, List.set_cons_succ] at h7
  exact h7
theorem st8v_other {w : World} {b b' : Nat} {x0 x1 x2 x3 x4 x5 x6 x7 : Value} {o : Obj} (h : w.heap[b']? = some o) (hne : b' ≠ b) : (st8v w b x0 x1 x2 x3 x4 x5 x6 x7).heap[b']? = some o :=
  hp_set_ne (hp_set_ne (hp_set_ne (hp_set_ne (hp_set_ne (hp_set_ne (hp_set_ne (hp_set_ne (h) hne) hne) hne) hne) hne) hne) hne) hne
theorem st8v_below {w w' : World} {B b : Nat} {x0 x1 x2 x3 x4 x5 x6 x7 : Value} (h : Below B w w') (hb : B ≤ b) : Below B w (st8v w' b x0 x1 x2 x3 x4 x5 x6 x7) :=
  ((((((((h).setCell (p := ⟨b, 0, none⟩) hb _).setCell (p := ⟨b, 1, none⟩) hb _).setCell (p := ⟨b, 2, none⟩) hb _).setCell (p := ⟨b, 3, none⟩) hb _).setCell (p := ⟨b, 4, none⟩) hb _).setCell (p := ⟨b, 5, none⟩) hb _).setCell (p := ⟨b, 6, none⟩) hb _).setCell (p := ⟨b, 7, none⟩) hb _
theorem st8v_keeps (X : World) (b : Nat) (x0 x1 x2 x3 x4 x5 x6 x7 : Value) : KeepsOthers X (st8v X b x0 x1 x2 x3 x4 x5 x6 x7) :=
  (((((((KeepsOthers.setCell _ _ _).trans (KeepsOthers.setCell _ _ _)).trans (KeepsOthers.setCell _ _ _)).trans (KeepsOthers.setCell _ _ _)).trans (KeepsOthers.setCell _ _ _)).trans (KeepsOthers.setCell _ _ _)).trans (KeepsOthers.setCell _ _ _)).trans (KeepsOthers.setCell _ _ _)
theorem KeepB.st8v {nb b : Nat} {x0 x1 x2 x3 x4 x5 x6 x7 : Value} {X X' : World} (h : KeepB nb X X') (hne : nb ≠ b) : KeepB nb X (st8v X' b x0 x1 x2 x3 x4 x5 x6 x7) := fun o ho => st8v_other (h o ho) hne
def st16v (w : World) (b : Nat) (x0 x1 x2 x3 x4 x5 x6 x7 x8 x9 x10 x11 x12 x13 x14 x15 : Value) : World := ((((((((((((((((w).setCell ⟨b, 0, none⟩ x0).setCell ⟨b, 1, none⟩ x1).setCell ⟨b, 2, none⟩ x2).setCell ⟨b, 3, none⟩ x3).setCell ⟨b, 4, none⟩ x4).setCell ⟨b, 5, none⟩ x5).setCell ⟨b, 6, none⟩ x6).setCell ⟨b, 7, none⟩ x7).setCell ⟨b, 8, none⟩ x8).setCell ⟨b, 9, none⟩ x9).setCell ⟨b, 10, none⟩ x10).setCell ⟨b, 11, none⟩ x11).setCell ⟨b, 12, none⟩ x12).setCell ⟨b, 13, none⟩ x13).setCell ⟨b, 14, none⟩ x14).setCell ⟨b, 15, none⟩ x15
theorem st16v_eq (w : World) (b : Nat) (x0 x1 x2 x3 x4 x5 x6 x7 x8 x9 x10 x11 x12 x13 x14 x15 : Value) : ((((((((((((((((w).setCell ⟨b, 0, none⟩ x0).setCell ⟨b, 1, none⟩ x1).setCell ⟨b, 2, none⟩ x2).setCell ⟨b, 3, none⟩ x3).setCell ⟨b, 4, none⟩ x4).setCell ⟨b, 5, none⟩ x5).setCell ⟨b, 6, none⟩ x6).setCell ⟨b, 7, none⟩ x7).setCell ⟨b, 8, none⟩ x8).setCell ⟨b, 9, none⟩ x9).setCell ⟨b, 10, none⟩ x10).setCell ⟨b, 11, none⟩ x11).setCell ⟨b, 12, none⟩ x12).setCell ⟨b, 13, none⟩ x13).setCell ⟨b, 14, none⟩ x14).setCell ⟨b, 15, none⟩ x15 = st16v w b x0 x1 x2 x3 x4 x5 x6 x7 x8 x9 x10 x11 x12 x13 x14 x15 := rfl
theorem st16v_at {w : World} {b : Nat} {x0 x1 x2 x3 x4 x5 x6 x7 x8 x9 x10 x11 x12 x13 x14 x15 y0 y1 y2 y3 y4 y5 y6 y7 y8 y9 y10 y11 y12 y13 y14 y15 : Value} {t : TypeId} (h : w.heap[b]? = some (.cells #[y0, y1, y2, y3, y4, y5, y6, y7, y8, y9, y10, y11, y12, y13, y14, y15] t)) : (st16v w b x0 x1 x2 x3 x4 x5 x6 x7 x8 x9 x10 x11 x12 x13 x14 x15).heap[b]? = some (.cells #[x0, x1, x2, x3, x4, x5, x6, x7, x8, x9, x10, x11, x12, x13, x14, x15] t) := by
  have h0 := hp_setL (o := 0) (v := x0) h
  simp only [List.set_cons_zero] at h0
  have h1 := hp_setL (o := 1) (v := x1) h0
  simp only [List.set_cons_zero, List.set_cons_succ] at h1
  have h2 := hp_setL (o := 2) (v := x2) h1
  simp only [List.set_cons_zero, List.set_cons_succ] at h2
  have h3 := hp_setL (o := 3) (v := x3) h2
  simp only [List.set_cons_zero, List.set_cons_succ] at h3
  have h4 := hp_setL (o := 4) (v := x4) h3
  simp only [List.set_cons_zero, List.set_cons_succ] at h4
  have h5 := hp_setL (o := 5) (v := x5) h4
  simp only [List.set_cons_zero, List.set_cons_succ] at h5
  have h6 := hp_setL (o := 6) (v := x6) h5
  simp only [List.set_cons_zero, List.set_cons_succ] at h6
  have h7 := hp_setL (o := 7) (v := x7) h6
  simp only [List.set_cons_zero, List.set_cons_succ] at h7
  have h8 := hp_setL (o := 8) (v := x8) h7
  simp only [List.set_cons_zero, List.set_cons_succ] at h8
  have h9 := hp_setL (o := 9) (v := x9) h8
  simp only [List.set_cons_zero, List.set_cons_succ] at h9
  have h10 := hp_setL (o := 10) (v := x10) h9
  simp only [List.set_cons_zero, List.set_cons_succ] at h10
  have h11 := hp_setL (o := 11) (v := x11) h10
  simp only [List.set_cons_zero, List.set_cons_succ] at h11
  have h12 := hp_setL (o := 12) (v := x12) h11
  simp only [List.set_cons_zero, List.set_cons_succ] at h12
  have h13 := hp_setL (o := 13) (v := x13) h12
  simp only [List.set_cons_zero, List.set_cons_succ] at h13
  have h14 := hp_setL (o := 14) (v := x14) h13
  simp only [List.set_cons_zero, List.set_cons_succ] at h14
  have h15 := hp_setL (o := 15) (v := x15) h14
  simp only [List.set_cons_zero, List.set_cons_succ] at h15
  exact h15
theorem st16v_other {w : World} {b b' : Nat} {x0 x1 x2 x3 x4 x5 x6 x7 x8 x9 x10 x11 x12 x13 x14 x15 : Value} {o : Obj} (h : w.heap[b']? = some o) (hne : b' ≠ b) : (st16v w b x0 x1 x2 x3 x4 x5 x6 x7 x8 x9 x10 x11 x12 x13 x14 x15).heap[b']? = some o :=
  hp_set_ne (hp_set_ne (hp_set_ne (hp_set_ne (hp_set_ne (hp_set_ne (hp_set_ne (hp_set_ne (hp_set_ne (hp_set_ne (hp_set_ne (hp_set_ne (hp_set_ne (hp_set_ne (hp_set_ne (hp_set_ne (h) hne) hne) hne) hne) hne) hne) hne) hne) hne) hne) hne) hne) hne) hne) hne) hne
theorem st16v_below {w w' : World} {B b : Nat} {x0 x1 x2 x3 x4 x5 x6 x7 x8 x9 x10 x11 x12 x13 x14 x15 : Value} (h : Below B w w') (hb : B ≤ b) : Below B w (st16v w' b x0 x1 x2 x3 x4 x5 x6 x7 x8 x9 x10 x11 x12 x13 x14 x15) :=
  ((((((((((((((((h).setCell (p := ⟨b, 0, none⟩) hb _).setCell (p := ⟨b, 1, none⟩) hb _).setCell (p := ⟨b, 2, none⟩) hb _).setCell (p := ⟨b, 3, none⟩) hb _).setCell (p := ⟨b, 4, none⟩) hb _).setCell (p := ⟨b, 5, none⟩) hb _).setCell (p := ⟨b, 6, none⟩) hb _).setCell (p := ⟨b, 7, none⟩) hb _).setCell (p := ⟨b, 8, none⟩) hb _).setCell (p := ⟨b, 9, none⟩) hb _).setCell (p := ⟨b, 10, none⟩) hb _).setCell (p := ⟨b, 11, none⟩) hb _).setCell (p := ⟨b, 12, none⟩) hb _).setCell (p := ⟨b, 13, none⟩) hb _).setCell (p := ⟨b, 14, none⟩) hb _).setCell (p := ⟨b, 15, none⟩) hb _
theorem st16v_keeps (X : World) (b : Nat) (x0 x1 x2 x3 x4 x5 x6 x7 x8 x9 x10 x11 x12 x13 x14 x15 : Value) : KeepsOthers X (st16v X b x0 x1 x2 x3 x4 x5 x6 x7 x8 x9 x10 x11 x12 x13 x14 x15) :=
  (((((((((((((((KeepsOthers.setCell _ _ _).trans (KeepsOthers.setCell _ _ _)).trans (KeepsOthers.setCell _ _ _)).trans (KeepsOthers.setCell _ _ _)).trans (KeepsOthers.setCell _ _ _)).trans (KeepsOthers.setCell _ _ _)).trans (KeepsOthers.setCell _ _ _)).trans (KeepsOthers.setCell _ _ _)).trans (KeepsOthers.setCell _ _ _)).trans (KeepsOthers.setCell _ _ _)).trans (KeepsOthers.setCell _ _ _)).trans (KeepsOthers.setCell _ _ _)).trans (KeepsOthers.setCell _ _ _)).trans (KeepsOthers.setCell _ _ _)).trans (KeepsOthers.setCell _ _ _)).trans (KeepsOthers.setCell _ _ _)
theorem KeepB.st16v {nb b : Nat} {x0 x1 x2 x3 x4 x5 x6 x7 x8 x9 x10 x11 x12 x13 x14 x15 : Value} {X X' : World} (h : KeepB nb X X') (hne : nb ≠ b) : KeepB nb X (st16v X' b x0 x1 x2 x3 x4 x5 x6 x7 x8 x9 x10 x11 x12 x13 x14 x15) := fun o ho => st16v_other (h o ho) hne
theorem one_words : wd 1 0 = 1 ∧ wd 1 1 = 0 ∧ wd 1 2 = 0 ∧ wd 1 3 = 0 := by decide +kernel
theorem fre_one (x y t : Nat) : fre x y 1 t = .agg #[.int .u64 (wd x 0), .int .u64 (wd x 1), .int .u64 (wd x 2), .int .u64 (wd x 3), .int .u64 (wd y 0), .int .u64 (wd y 1), .int .u64 (wd y 2), .int .u64 (wd y 3),
    .int .u64 1, .int .u64 0, .int .u64 0, .int .u64 0, .int .u64 (wd t 0), .int .u64 (wd t 1), .int .u64 (wd t 2), .int .u64 (wd t 3)] := by
  unfold fre
  rw [one_words.1, one_words.2.1, one_words.2.2.1, one_words.2.2.2]; rfl

/-! ### What the point functions compute, behind names -/
/-- A freed point: x, y, z, t. -/
structure F4 where
  x : Nat
  y : Nat
  z : Nat
  t : Nat
structure F4.ok (f : F4) : Prop where
  x : f.x < p
  y : f.y < p
  z : f.z < p
  t : f.t < p
abbrev F4.v (f : F4) : Value := fre f.x f.y f.z f.t
def dd : Nat := 37095705934669439343138083508754565189542113879843219016388785533085940283555
def finv (a : Nat) : Nat := powF a (p - 2)
theorem finv_lt (a : Nat) : finv a < p := powF_lt a _
theorem dd_lt : dd < p := by decide
def ofP (x y : Nat) : F4 := ⟨x, y, 1, fmul x y⟩
def addA (p q : F4) : Nat := fmul (fsub p.y p.x) (fsub q.y q.x)
def addB (p q : F4) : Nat := fmul (fadd p.y p.x) (fadd q.y q.x)
def addC (p q : F4) : Nat := fmul (fmul p.t q.t) (fadd dd dd)
def addD (p q : F4) : Nat := fmul (fadd p.z p.z) q.z
def addE (p q : F4) : Nat := fsub (addB p q) (addA p q)
def addF (p q : F4) : Nat := fsub (addD p q) (addC p q)
def addG (p q : F4) : Nat := fadd (addD p q) (addC p q)
def addH (p q : F4) : Nat := fadd (addB p q) (addA p q)
def addX (p q : F4) : Nat := fmul (addE p q) (addF p q)
def addY (p q : F4) : Nat := fmul (addG p q) (addH p q)
def addZ (p q : F4) : Nat := fmul (addF p q) (addG p q)
def addT (p q : F4) : Nat := fmul (addE p q) (addH p q)
def addP (p q : F4) : F4 := ⟨addX p q, addY p q, addZ p q, addT p q⟩
theorem addP_ok (p q : F4) : (addP p q).ok := ⟨fmul_lt _ _, fmul_lt _ _, fmul_lt _ _, fmul_lt _ _⟩
def ptX (f : F4) : Nat := fmul f.x (finv f.z)
def ptY (f : F4) : Nat := fmul f.y (finv f.z)
theorem one_lt : 1 < p := by decide
theorem ofP_ok {x y : Nat} (hx : x < p) (hy : y < p) : (ofP x y).ok := ⟨hx, hy, one_lt, fmul_lt _ _⟩
def dbl (q o : F4) (b : Bool) : F4 := if b then addP (addP o o) q else addP o o
def mulF (k : Nat) (q : F4) : F4 := (hiBits k 0).foldl (dbl q) (ofP 0 1)
theorem dbl_ok (q o : F4) (b : Bool) : (dbl q o b).ok := by unfold dbl; split <;> exact addP_ok _ _
theorem foldl_ok (q : F4) (l : List Bool) : (l.foldl (dbl q) (ofP 0 1)).ok := by
  rcases List.eq_nil_or_concat l with rfl | ⟨l', b, rfl⟩
  · exact ofP_ok (by decide) (by decide)
  · rw [List.concat_eq_append, List.foldl_append]; exact dbl_ok _ _ _

abbrev st8 (w : World) (b x y : Nat) : World := st8v w b (.int .u64 (wd x 0)) (.int .u64 (wd x 1)) (.int .u64 (wd x 2)) (.int .u64 (wd x 3)) (.int .u64 (wd y 0)) (.int .u64 (wd y 1)) (.int .u64 (wd y 2)) (.int .u64 (wd y 3))
theorem st8_eq (w : World) (b x y : Nat) : ((((((((w).setCell ⟨b, 0, none⟩ (.int .u64 (wd x 0))).setCell ⟨b, 1, none⟩ (.int .u64 (wd x 1))).setCell ⟨b, 2, none⟩ (.int .u64 (wd x 2))).setCell ⟨b, 3, none⟩ (.int .u64 (wd x 3))).setCell ⟨b, 4, none⟩ (.int .u64 (wd y 0))).setCell ⟨b, 5, none⟩ (.int .u64 (wd y 1))).setCell ⟨b, 6, none⟩ (.int .u64 (wd y 2))).setCell ⟨b, 7, none⟩ (.int .u64 (wd y 3)) = st8 w b x y := rfl
def st16 (w : World) (b : Nat) (f : F4) : World := st16v w b (.int .u64 (wd f.x 0)) (.int .u64 (wd f.x 1)) (.int .u64 (wd f.x 2)) (.int .u64 (wd f.x 3)) (.int .u64 (wd f.y 0)) (.int .u64 (wd f.y 1)) (.int .u64 (wd f.y 2)) (.int .u64 (wd f.y 3)) (.int .u64 (wd f.z 0)) (.int .u64 (wd f.z 1)) (.int .u64 (wd f.z 2)) (.int .u64 (wd f.z 3)) (.int .u64 (wd f.t 0)) (.int .u64 (wd f.t 1)) (.int .u64 (wd f.t 2)) (.int .u64 (wd f.t 3))
theorem st16_eq (w : World) (b : Nat) (f : F4) : ((((((((((((((((w).setCell ⟨b, 0, none⟩ (.int .u64 (wd f.x 0))).setCell ⟨b, 1, none⟩ (.int .u64 (wd f.x 1))).setCell ⟨b, 2, none⟩ (.int .u64 (wd f.x 2))).setCell ⟨b, 3, none⟩ (.int .u64 (wd f.x 3))).setCell ⟨b, 4, none⟩ (.int .u64 (wd f.y 0))).setCell ⟨b, 5, none⟩ (.int .u64 (wd f.y 1))).setCell ⟨b, 6, none⟩ (.int .u64 (wd f.y 2))).setCell ⟨b, 7, none⟩ (.int .u64 (wd f.y 3))).setCell ⟨b, 8, none⟩ (.int .u64 (wd f.z 0))).setCell ⟨b, 9, none⟩ (.int .u64 (wd f.z 1))).setCell ⟨b, 10, none⟩ (.int .u64 (wd f.z 2))).setCell ⟨b, 11, none⟩ (.int .u64 (wd f.z 3))).setCell ⟨b, 12, none⟩ (.int .u64 (wd f.t 0))).setCell ⟨b, 13, none⟩ (.int .u64 (wd f.t 1))).setCell ⟨b, 14, none⟩ (.int .u64 (wd f.t 2))).setCell ⟨b, 15, none⟩ (.int .u64 (wd f.t 3)) = st16 w b f := rfl
abbrev F4.cells (f : F4) : Array Value := cellsF f.x f.y f.z f.t
theorem st16_at {w : World} {b : Nat} {f : F4} {y0 y1 y2 y3 y4 y5 y6 y7 y8 y9 y10 y11 y12 y13 y14 y15 : Value} {t : TypeId} (h : w.heap[b]? = some (.cells #[y0, y1, y2, y3, y4, y5, y6, y7, y8, y9, y10, y11, y12, y13, y14, y15] t)) : (st16 w b f).heap[b]? = some (.cells f.cells t) := st16v_at h
theorem st16_other {w : World} {b b' : Nat} {f : F4} {o : Obj} (h : w.heap[b']? = some o) (hne : b' ≠ b) : (st16 w b f).heap[b']? = some o := st16v_other h hne
theorem st16_below {w w' : World} {B b : Nat} {f : F4} (h : Below B w w') (hb : B ≤ b) : Below B w (st16 w' b f) := st16v_below h hb
theorem st16_keeps (X : World) (b : Nat) (f : F4) : KeepsOthers X (st16 X b f) := st16v_keeps _ _ _ _ _ _ _ _ _ _ _ _ _ _ _ _ _ _
theorem KeepB.st16 {nb b : Nat} {f : F4} {X X' : World} (h : KeepB nb X X') (hne : nb ≠ b) : KeepB nb X (st16 X' b f) := fun _ ho => st16v_other (h _ ho) hne
end Go.Num
