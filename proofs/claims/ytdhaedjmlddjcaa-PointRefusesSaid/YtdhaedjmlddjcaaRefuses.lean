/- law8.PointRefuses: the walk. No conditions. -/
import Derived.Test.YtdhaedjmlddjcaaPFrom
import Derived.Test.YtdhaedjmlddjcaaAwake
import Derived.Lib.SlBytesConst
import Derived.RegionTactic
import Derived.ChangeAlike
namespace Go.Proofs.Ytdhaedjmlddjcaa
open Go.RowKit Go.Mono Go.Num
set_option maxHeartbeats 400000 in
theorem pfrom_short (s : ByteArray) (w : World) (h : s.size ≠ 32) :
    Calls Try.prog 23 #[.string s] w fun e w' => e = .returned (.tuple #[pt 0 0, .bool false]) ∧ Below w.heap.size w w' := by
  have hd : decide ((s.size : Int) = 32) = false := by simp; omega
  have h2 : ¬ (s.size : Int) = 32 := by omega
  go_enter Try.func23, Try.ntmps23
  go_wp2_with fail
  exact bodyPost_ret (v := .tuple #[pt 0 0, .bool false]) (results2_blk Try.results23 rfl rfl (hp_new (w := w) _ rfl) Try.underlying28 rfl (by kernel_rfl)) rfl ⟨rfl, (Below.refl _ _).alloc (Nat.le_refl _) _⟩
def rf0 (j : Nat) : Nat := if j = 0 then 237 else if j = 31 then 127 else 255
def rf1 (m j : Nat) : Nat := if j = 0 then 237 + m else rf0 j
def rf2 (m j : Nat) : Nat := if j = 31 then 255 else rf1 m j
def rg (j : Nat) : Nat := if j = 0 then 2 else 0
def rh (j : Nat) : Nat := if j = 0 then 1 else if j = 31 then 128 else 0
def ro (j : Nat) : Nat := if j = 0 then 1 else 0
theorem rf0_cells : bcells rf0 32 = #[.int .u8 237, .int .u8 255, .int .u8 255, .int .u8 255, .int .u8 255, .int .u8 255, .int .u8 255, .int .u8 255, .int .u8 255, .int .u8 255, .int .u8 255, .int .u8 255, .int .u8 255, .int .u8 255, .int .u8 255, .int .u8 255, .int .u8 255, .int .u8 255, .int .u8 255, .int .u8 255, .int .u8 255, .int .u8 255, .int .u8 255, .int .u8 255, .int .u8 255, .int .u8 255, .int .u8 255, .int .u8 255, .int .u8 255, .int .u8 255, .int .u8 255, .int .u8 127] := rfl
theorem rf1_no : ∀ m, m < 19 → fromOk (rf1 m) = false := by
  have h : ∀ m : Fin 19, fromOk (rf1 m.1) = false := by decide +kernel
  exact fun m hm => h ⟨m, hm⟩
theorem rf2_no : ∀ m, m < 19 → fromOk (rf2 m) = false := by
  have h : ∀ m : Fin 19, fromOk (rf2 m.1) = false := by decide +kernel
  exact fun m hm => h ⟨m, hm⟩
theorem rg_no : fromOk rg = false := by decide +kernel
theorem rh_no : fromOk rh = false := by decide +kernel
theorem rf1_lt (m j : Nat) (hm : m < 19) : rf1 m j < 256 := by
  unfold rf1 rf0
  split
  · omega
  · split
    · omega
    · first | omega | (split <;> omega)
theorem rf2_lt (m j : Nat) (hm : m < 19) : rf2 m j < 256 := by
  unfold rf2
  split
  · omega
  · exact rf1_lt m j hm
theorem rg_lt (j : Nat) : rg j < 256 := by unfold rg; split <;> omega
theorem rh_lt (j : Nat) : rh j < 256 := by
  unfold rh
  split
  · omega
  · split <;> omega
theorem from_no (f : Nat → Nat) (w : World) (hf : ∀ j, f j < 256) (h : fromOk f = false) :
    Calls Try.prog 23 #[.string (bstr f 32)] w fun e w' => e = .returned (.tuple #[pt 0 0, .bool false]) ∧ Below w.heap.size w w' := by
  have := pfrom_any f w hf
  rw [h] at this
  exact this
set_option maxHeartbeats 4000000 in
theorem refuses_any (n : Nat) (s : ByteArray) (w : World) (hn : n < 256) :
    Calls Try.prog 8 #[.int .u8 n, .string s] w fun e w' => e = .returned (.bool true) ∧ Below w.heap.size w w' := by
  obtain ⟨wA, hkc, hA, hwA⟩ : ∃ wA, (convert 49 49 (.slice (some ⟨w.heap.size, 0, none⟩) 32 32)).run Try.prog (w.alloc (.cells #[.int .u8 237, .int .u8 255, .int .u8 255, .int .u8 255, .int .u8 255, .int .u8 255, .int .u8 255, .int .u8 255, .int .u8 255, .int .u8 255, .int .u8 255, .int .u8 255, .int .u8 255, .int .u8 255, .int .u8 255, .int .u8 255, .int .u8 255, .int .u8 255, .int .u8 255, .int .u8 255, .int .u8 255, .int .u8 255, .int .u8 255, .int .u8 255, .int .u8 255, .int .u8 255, .int .u8 255, .int .u8 255, .int .u8 255, .int .u8 255, .int .u8 255, .int .u8 127] 5)) = .ok (.slice (some ⟨w.heap.size, 0, none⟩) 32 32) wA ∧ wA.heap[w.heap.size]? = some (.cells (bcells rf0 32) 5 (32, 32 + 1)) ∧ Below w.heap.size w wA :=
    ⟨_, Lib.run_convert_bytes_const (P := Try.prog) w 49 5 _ 32 32 Try.underlying49 Try.underlying5, hp_new _ rfl, (Below.refl _ _).alloc (Nat.le_refl _) _⟩
  have cA := bcells_at hA 0 (by decide)
  have fA := frozen_row rfl hA 0 (by decide)
  have hm : n % 19 < 19 := Nat.mod_lt _ (by decide)
  have hmod : ((n : Nat) : Int).tmod 19 = ((n % 19 : Nat) : Int) := by rw [Int.tmod_eq_emod_of_nonneg (by omega)]; omega
  have hmod2 : ((n : Nat) : Int) % 19 = ((n % 19 : Nat) : Int) := by omega
  generalize n % 19 = m at *
  have hadd : IntKind.u8.wrap (237 + (m : Int)) = ((237 + m : Nat) : Int) := by rw [IntKind.wrap_u8]; omega
  have hcA : ((rf0 0 : Nat) : Int) = 237 := rfl
  rw [hcA] at cA
  have hA1 := hp_set (o := 0) (v := .int .u8 ((237 + m : Nat) : Int)) hA
  rw [bcells_set, show (fun j => if j = 0 then 237 + m else rf0 j) = rf1 m from rfl] at hA1
  have hw1 := hwA.setCell (p := ⟨w.heap.size, 0, none⟩) (by simp) (.int .u8 ((237 + m : Nat) : Int))
  generalize 237 + m = M at *
  have hst := run_bstr (P := Try.prog) (c := 32) hA1 Try.underlying49 Try.underlying5 Try.underlying9
  have hf1 := fun w => from_no (rf1 m) w (fun j => rf1_lt m j hm) (rf1_no m hm)
  clear hA hwA hcA
  go_enter Try.func8, Try.ntmps8
  go_wp2_with fail
  clear hst cA fA
  generalize wA.setCell ⟨w.heap.size, 0, none⟩ (.int .u8 (M : Int)) = w0 at *
  refine (hf1 _).mono ?_
  rintro e w1 ⟨rfl, hb⟩
  replace hw1 := below_tr' hw1 hb
  replace hA1 := keep hb hA1
  clear hb
  have cA := bcells_at hA1 31 (by decide)
  have fA := frozen_row rfl hA1 31 (by decide)
  have hl1 := Go.Mono.lt_of_some hA1
  have hA2 : ((w1.setCell ⟨w.heap.size, 31, none⟩ (.int .u8 255)).alloc (.cells #[.int .u64 (wd 0 0), .int .u64 (wd 0 1), .int .u64 (wd 0 2), .int .u64 (wd 0 3), .int .u64 (wd 0 0), .int .u64 (wd 0 1), .int .u64 (wd 0 2), .int .u64 (wd 0 3)] 28)).heap[w.heap.size]? = some (.cells (bcells (rf2 m) 32) 5 (32, 32 + 1)) := by
    have h := hp_set (o := 31) (v := .int .u8 ((255 : Nat) : Int)) hA1
    rw [bcells_set] at h
    exact hp_old _ h
  have hw2 := (hw1.setCell (p := ⟨w.heap.size, 31, none⟩) (by simp) (.int .u8 255)).alloc (by simp [World.setCell]; omega) (.cells #[.int .u64 (wd 0 0), .int .u64 (wd 0 1), .int .u64 (wd 0 2), .int .u64 (wd 0 3), .int .u64 (wd 0 0), .int .u64 (wd 0 1), .int .u64 (wd 0 2), .int .u64 (wd 0 3)] 28)
  have hst2 := run_bstr (P := Try.prog) (c := 32) hA2 Try.underlying49 Try.underlying5 Try.underlying9
  go_wp2_with fail
  clear hst2 cA fA hA1 hw1
  generalize (w1.setCell ⟨w.heap.size, 31, none⟩ (.int .u8 255)).alloc (.cells #[.int .u64 (wd 0 0), .int .u64 (wd 0 1), .int .u64 (wd 0 2), .int .u64 (wd 0 3), .int .u64 (wd 0 0), .int .u64 (wd 0 1), .int .u64 (wd 0 2), .int .u64 (wd 0 3)] 28) = w2 at *
  have hf2 := fun w => from_no (rf2 m) w (fun j => rf2_lt m j hm) (rf2_no m hm)
  refine (hf2 _).mono ?_
  rintro e w3 ⟨rfl, hb⟩
  replace hw2 := below_tr' hw2 hb
  clear hb
  clear hA2 hf1 hf2
  go_wp2_with fail
  obtain ⟨w4, hq_w4⟩ : ∃ w4, (w3.alloc (.cells #[.int .u64 (wd 0 0), .int .u64 (wd 0 1), .int .u64 (wd 0 2), .int .u64 (wd 0 3), .int .u64 (wd 0 0), .int .u64 (wd 0 1), .int .u64 (wd 0 2), .int .u64 (wd 0 3)] 28)) = w4 := ⟨_, rfl⟩
  have hZ : w4.heap[w3.heap.size]? = some (.cells #[.int .u64 (wd 0 0), .int .u64 (wd 0 1), .int .u64 (wd 0 2), .int .u64 (wd 0 3), .int .u64 (wd 0 0), .int .u64 (wd 0 1), .int .u64 (wd 0 2), .int .u64 (wd 0 3)] 28) := by rw [← hq_w4]; exact hp_new _ (by simp)
  have hs_w4 : w4.heap.size = w3.heap.size + 1 := by rw [← hq_w4]; simp
  have hw_w4 : Below w3.heap.size w3 w4 := by rw [← hq_w4]; exact (Below.refl w3.heap.size w3).alloc (Nat.le_refl _) _
  rw [hq_w4]
  clear hq_w4
  clear hZ hs_w4
  replace hw2 := below_tr' hw2 hw_w4
  clear hw_w4
  have hmk : ∀ w, (Instr.makeSlice 49 (.int .i64 31) (.int .i64 31)).run Try.prog w = .ok (.slice (some ⟨w.heap.size, 0, none⟩) 31 31) (w.alloc (.cells (bcells (fun _ => 0) 31) 5)) := fun w => by kernel_rfl
  have q1 : (convert 49 9 (.slice (some ⟨w4.heap.size, 0, none⟩) 1 1)).run Try.prog (w4.alloc (.cells #[.int .u8 2] 5)).drew = .ok (.string (bstr (fun _ => 2) 1)) (w4.alloc (.cells #[.int .u8 2] 5)).drew := run_bstr (f := (fun _ => 2)) (hp_drew (hp_new _ (by simp))) Try.underlying49 Try.underlying5 Try.underlying9
  have q2 : (convert 49 9 (.slice (some ⟨w4.heap.size, 0, none⟩) 1 1)).run Try.prog ((w4.alloc (.cells #[.int .u8 2] 5)).alloc (.cells (bcells (fun _ => 0) 31) 5)).drew = .ok (.string (bstr (fun _ => 2) 1)) ((w4.alloc (.cells #[.int .u8 2] 5)).alloc (.cells (bcells (fun _ => 0) 31) 5)).drew := run_bstr (f := (fun _ => 2)) (hp_drew (hp_old _ (hp_new _ (by simp)))) Try.underlying49 Try.underlying5 Try.underlying9
  have q3 : (convert 49 9 (.slice (some ⟨w4.heap.size + 1, 0, none⟩) 1 1)).run Try.prog ((w4.alloc (.cells (bcells (fun _ => 0) 31) 5)).alloc (.cells #[.int .u8 2] 5)).drew = .ok (.string (bstr (fun _ => 2) 1)) ((w4.alloc (.cells (bcells (fun _ => 0) 31) 5)).alloc (.cells #[.int .u8 2] 5)).drew := run_bstr (f := (fun _ => 2)) (hp_drew (hp_new _ (by simp))) Try.underlying49 Try.underlying5 Try.underlying9
  have q4 : (convert 49 9 (.slice (some ⟨w4.heap.size, 0, none⟩) 31 31)).run Try.prog (w4.alloc (.cells (bcells (fun _ => 0) 31) 5)).drew = .ok (.string (bstr (fun _ => 0) 31)) (w4.alloc (.cells (bcells (fun _ => 0) 31) 5)).drew := run_bstr (f := (fun _ => 0)) (hp_drew (hp_new _ (by simp))) Try.underlying49 Try.underlying5 Try.underlying9
  have q5 : (convert 49 9 (.slice (some ⟨w4.heap.size, 0, none⟩) 31 31)).run Try.prog ((w4.alloc (.cells (bcells (fun _ => 0) 31) 5)).alloc (.cells #[.int .u8 2] 5)).drew = .ok (.string (bstr (fun _ => 0) 31)) ((w4.alloc (.cells (bcells (fun _ => 0) 31) 5)).alloc (.cells #[.int .u8 2] 5)).drew := run_bstr (f := (fun _ => 0)) (hp_drew (hp_old _ (hp_new _ (by simp)))) Try.underlying49 Try.underlying5 Try.underlying9
  have q6 : (convert 49 9 (.slice (some ⟨w4.heap.size + 1, 0, none⟩) 31 31)).run Try.prog ((w4.alloc (.cells #[.int .u8 2] 5)).alloc (.cells (bcells (fun _ => 0) 31) 5)).drew = .ok (.string (bstr (fun _ => 0) 31)) ((w4.alloc (.cells #[.int .u8 2] 5)).alloc (.cells (bcells (fun _ => 0) 31) 5)).drew := run_bstr (f := (fun _ => 0)) (hp_drew (hp_new _ (by simp))) Try.underlying49 Try.underlying5 Try.underlying9
  have z1 := bstr_size (fun _ => 2) 1
  have z2 := bstr_size (fun _ => 0) 31
  have z3 : bstr (fun _ => 2) 1 ++ bstr (fun _ => 0) 31 = bstr rg 32 := by decide +kernel
  have hsz4 := hw2.size
  go_region
  · have hw5 := ((hw2.alloc (by omega) (.cells #[.int .u8 2] 5)).alloc (by simp; omega) (.cells (bcells (fun _ => 0) 31) 5)).drew
    clear q1 q2 q3 q4 q5 q6 z1 z2 z3 hmk hw2
    go_wp2_with fail
    generalize ((w4.alloc (.cells #[.int .u8 2] 5)).alloc (.cells (bcells (fun _ => 0) 31) 5)).drew = w5 at *
    have hfg := fun w => from_no rg w rg_lt rg_no
    refine (hfg _).mono ?_
    rintro e w6 ⟨rfl, hb⟩
    replace hw5 := below_tr' hw5 hb
    clear hb
    go_wp2_with fail
    obtain ⟨w8, hq_w8⟩ : ∃ w8, (w6.alloc (.cells #[.int .u64 (wd 0 0), .int .u64 (wd 0 1), .int .u64 (wd 0 2), .int .u64 (wd 0 3), .int .u64 (wd 0 0), .int .u64 (wd 0 1), .int .u64 (wd 0 2), .int .u64 (wd 0 3)] 28)) = w8 := ⟨_, rfl⟩
    have hZ8 : w8.heap[w6.heap.size]? = some (.cells #[.int .u64 (wd 0 0), .int .u64 (wd 0 1), .int .u64 (wd 0 2), .int .u64 (wd 0 3), .int .u64 (wd 0 0), .int .u64 (wd 0 1), .int .u64 (wd 0 2), .int .u64 (wd 0 3)] 28) := by rw [← hq_w8]; exact hp_new _ (by simp)
    have hs_w8 : w8.heap.size = w6.heap.size + 1 := by rw [← hq_w8]; simp
    have hw_w8 : Below w6.heap.size w6 w8 := by rw [← hq_w8]; exact (Below.refl w6.heap.size w6).alloc (Nat.le_refl _) _
    rw [hq_w8]
    clear hq_w8
    clear hZ8 hs_w8
    replace hw5 := below_tr' hw5 hw_w8
    clear hw_w8
    have hmk2 : ∀ w, (Instr.makeSlice 49 (.int .i64 30) (.int .i64 30)).run Try.prog w = .ok (.slice (some ⟨w.heap.size, 0, none⟩) 30 30) (w.alloc (.cells (bcells (fun _ => 0) 30) 5)) := fun w => by kernel_rfl
    have r1 : (convert 49 9 (.slice (some ⟨w8.heap.size, 0, none⟩) 1 1)).run Try.prog (w8.alloc (.cells #[.int .u8 1] 5)).drew = .ok (.string (bstr (fun _ => 1) 1)) (w8.alloc (.cells #[.int .u8 1] 5)).drew := run_bstr (f := (fun _ => 1)) (hp_drew (hp_new _ (by simp))) Try.underlying49 Try.underlying5 Try.underlying9
    have r2 : (convert 49 9 (.slice (some ⟨w8.heap.size, 0, none⟩) 1 1)).run Try.prog ((w8.alloc (.cells #[.int .u8 1] 5)).alloc (.cells (bcells (fun _ => 0) 30) 5)).drew = .ok (.string (bstr (fun _ => 1) 1)) ((w8.alloc (.cells #[.int .u8 1] 5)).alloc (.cells (bcells (fun _ => 0) 30) 5)).drew := run_bstr (f := (fun _ => 1)) (hp_drew (hp_old _ (hp_new _ (by simp)))) Try.underlying49 Try.underlying5 Try.underlying9
    have r3 : (convert 49 9 (.slice (some ⟨w8.heap.size + 1, 0, none⟩) 1 1)).run Try.prog ((w8.alloc (.cells (bcells (fun _ => 0) 30) 5)).alloc (.cells #[.int .u8 1] 5)).drew = .ok (.string (bstr (fun _ => 1) 1)) ((w8.alloc (.cells (bcells (fun _ => 0) 30) 5)).alloc (.cells #[.int .u8 1] 5)).drew := run_bstr (f := (fun _ => 1)) (hp_drew (hp_new _ (by simp))) Try.underlying49 Try.underlying5 Try.underlying9
    have r4 : (convert 49 9 (.slice (some ⟨w8.heap.size, 0, none⟩) 30 30)).run Try.prog (w8.alloc (.cells (bcells (fun _ => 0) 30) 5)).drew = .ok (.string (bstr (fun _ => 0) 30)) (w8.alloc (.cells (bcells (fun _ => 0) 30) 5)).drew := run_bstr (f := (fun _ => 0)) (hp_drew (hp_new _ (by simp))) Try.underlying49 Try.underlying5 Try.underlying9
    have r5 : (convert 49 9 (.slice (some ⟨w8.heap.size, 0, none⟩) 30 30)).run Try.prog ((w8.alloc (.cells (bcells (fun _ => 0) 30) 5)).alloc (.cells #[.int .u8 1] 5)).drew = .ok (.string (bstr (fun _ => 0) 30)) ((w8.alloc (.cells (bcells (fun _ => 0) 30) 5)).alloc (.cells #[.int .u8 1] 5)).drew := run_bstr (f := (fun _ => 0)) (hp_drew (hp_old _ (hp_new _ (by simp)))) Try.underlying49 Try.underlying5 Try.underlying9
    have r6 : (convert 49 9 (.slice (some ⟨w8.heap.size + 1, 0, none⟩) 30 30)).run Try.prog ((w8.alloc (.cells #[.int .u8 1] 5)).alloc (.cells (bcells (fun _ => 0) 30) 5)).drew = .ok (.string (bstr (fun _ => 0) 30)) ((w8.alloc (.cells #[.int .u8 1] 5)).alloc (.cells (bcells (fun _ => 0) 30) 5)).drew := run_bstr (f := (fun _ => 0)) (hp_drew (hp_new _ (by simp))) Try.underlying49 Try.underlying5 Try.underlying9
    have y1 := bstr_size (fun _ => 1) 1
    have y2 := bstr_size (fun _ => 0) 30
    have y3 : bstr (fun _ => 1) 1 ++ bstr (fun _ => 0) 30 = bstr ro 31 := by decide +kernel
    have y4 := bstr_size ro 31
    have y5 : bstr ro 31 ++ ⟨#[128]⟩ = bstr rh 32 := by decide +kernel
    have hsz8 := hw5.size
    go_region
    · have hw5 := ((hw5.alloc (by omega) (.cells #[.int .u8 1] 5)).alloc (by simp; omega) (.cells (bcells (fun _ => 0) 30) 5)).drew
      clear r1 r2 r3 r4 r5 r6 y1 y2 y3 y4 y5 hmk2
      go_wp2_with fail
      generalize ((w8.alloc (.cells #[.int .u8 1] 5)).alloc (.cells (bcells (fun _ => 0) 30) 5)).drew = w10 at *
      have hfh := fun w => from_no rh w rh_lt rh_no
      refine (hfh _).mono ?_
      rintro e w11 ⟨rfl, hb⟩
      replace hw5 := below_tr' hw5 hb
      clear hb
      have hlw := hw5.size
      by_cases ha : s.size = 32
      · have ha2 : (s.size : Int) = 32 := by omega
        have hfs := fun w => pfrom_short ⟨#[]⟩ w (by decide)
        go_wp2_with fail
        obtain ⟨w12, hq_w12⟩ : ∃ w12, (w11.alloc (.cells #[.int .u64 (wd 0 0), .int .u64 (wd 0 1), .int .u64 (wd 0 2), .int .u64 (wd 0 3), .int .u64 (wd 0 0), .int .u64 (wd 0 1), .int .u64 (wd 0 2), .int .u64 (wd 0 3)] 28)) = w12 := ⟨_, rfl⟩
        have hZ12 : w12.heap[w11.heap.size]? = some (.cells #[.int .u64 (wd 0 0), .int .u64 (wd 0 1), .int .u64 (wd 0 2), .int .u64 (wd 0 3), .int .u64 (wd 0 0), .int .u64 (wd 0 1), .int .u64 (wd 0 2), .int .u64 (wd 0 3)] 28) := by rw [← hq_w12]; exact hp_new _ (by simp)
        have hs_w12 : w12.heap.size = w11.heap.size + 1 := by rw [← hq_w12]; simp
        have hw_w12 : Below w11.heap.size w11 w12 := by rw [← hq_w12]; exact (Below.refl w11.heap.size w11).alloc (Nat.le_refl _) _
        rw [hq_w12]
        clear hq_w12
        clear hZ12 hs_w12
        replace hw5 := below_tr' hw5 hw_w12
        clear hw_w12
        refine (hfs _).mono ?_
        rintro e w14 ⟨rfl, hb⟩
        replace hw5 := below_tr' hw5 hb
        clear hb
        go_wp2_with fail
        obtain ⟨w15, hq_w15⟩ : ∃ w15, (w14.alloc (.cells #[.int .u64 (wd 0 0), .int .u64 (wd 0 1), .int .u64 (wd 0 2), .int .u64 (wd 0 3), .int .u64 (wd 0 0), .int .u64 (wd 0 1), .int .u64 (wd 0 2), .int .u64 (wd 0 3)] 28)) = w15 := ⟨_, rfl⟩
        have hZ15 : w15.heap[w14.heap.size]? = some (.cells #[.int .u64 (wd 0 0), .int .u64 (wd 0 1), .int .u64 (wd 0 2), .int .u64 (wd 0 3), .int .u64 (wd 0 0), .int .u64 (wd 0 1), .int .u64 (wd 0 2), .int .u64 (wd 0 3)] 28) := by rw [← hq_w15]; exact hp_new _ (by simp)
        have hs_w15 : w15.heap.size = w14.heap.size + 1 := by rw [← hq_w15]; simp
        have hw_w15 : Below w14.heap.size w14 w15 := by rw [← hq_w15]; exact (Below.refl w14.heap.size w14).alloc (Nat.le_refl _) _
        rw [hq_w15]
        clear hq_w15
        clear hZ15 hs_w15
        replace hw5 := below_tr' hw5 hw_w15
        clear hw_w15
        refine (awake_any _).mono ?_
        rintro e w16 ⟨rfl, hb⟩
        replace hw5 := below_tr' hw5 hb
        clear hb
        go_wp2_with fail
        go_ret
        exact ⟨rfl, hw5⟩
      · have ha2 : ¬ (s.size : Int) = 32 := by omega
        have hfs0 := fun w => pfrom_short ⟨#[]⟩ w (by decide)
        have hfs := fun w => pfrom_short s w ha
        go_wp2_with fail
        · skip
          obtain ⟨w12, hq_w12⟩ : ∃ w12, (w11.alloc (.cells #[.int .u64 (wd 0 0), .int .u64 (wd 0 1), .int .u64 (wd 0 2), .int .u64 (wd 0 3), .int .u64 (wd 0 0), .int .u64 (wd 0 1), .int .u64 (wd 0 2), .int .u64 (wd 0 3)] 28)) = w12 := ⟨_, rfl⟩
          have hZ12 : w12.heap[w11.heap.size]? = some (.cells #[.int .u64 (wd 0 0), .int .u64 (wd 0 1), .int .u64 (wd 0 2), .int .u64 (wd 0 3), .int .u64 (wd 0 0), .int .u64 (wd 0 1), .int .u64 (wd 0 2), .int .u64 (wd 0 3)] 28) := by rw [← hq_w12]; exact hp_new _ (by simp)
          have hs_w12 : w12.heap.size = w11.heap.size + 1 := by rw [← hq_w12]; simp
          have hw_w12 : Below w11.heap.size w11 w12 := by rw [← hq_w12]; exact (Below.refl w11.heap.size w11).alloc (Nat.le_refl _) _
          rw [hq_w12]
          clear hq_w12
          clear hZ12 hs_w12
          replace hw5 := below_tr' hw5 hw_w12
          clear hw_w12
          refine (hfs0 _).mono ?_
          rintro e w14 ⟨rfl, hb⟩
          replace hw5 := below_tr' hw5 hb
          clear hb
          go_wp2_with fail
          obtain ⟨w15, hq_w15⟩ : ∃ w15, (w14.alloc (.cells #[.int .u64 (wd 0 0), .int .u64 (wd 0 1), .int .u64 (wd 0 2), .int .u64 (wd 0 3), .int .u64 (wd 0 0), .int .u64 (wd 0 1), .int .u64 (wd 0 2), .int .u64 (wd 0 3)] 28)) = w15 := ⟨_, rfl⟩
          have hZ15 : w15.heap[w14.heap.size]? = some (.cells #[.int .u64 (wd 0 0), .int .u64 (wd 0 1), .int .u64 (wd 0 2), .int .u64 (wd 0 3), .int .u64 (wd 0 0), .int .u64 (wd 0 1), .int .u64 (wd 0 2), .int .u64 (wd 0 3)] 28) := by rw [← hq_w15]; exact hp_new _ (by simp)
          have hs_w15 : w15.heap.size = w14.heap.size + 1 := by rw [← hq_w15]; simp
          have hw_w15 : Below w14.heap.size w14 w15 := by rw [← hq_w15]; exact (Below.refl w14.heap.size w14).alloc (Nat.le_refl _) _
          rw [hq_w15]
          clear hq_w15
          clear hZ15 hs_w15
          replace hw5 := below_tr' hw5 hw_w15
          clear hw_w15
          refine (awake_any _).mono ?_
          rintro e w16 ⟨rfl, hb⟩
          replace hw5 := below_tr' hw5 hb
          clear hb
          go_wp2_with fail
          go_ret
          exact ⟨rfl, hw5⟩
        · skip
          obtain ⟨w12, hq_w12⟩ : ∃ w12, (w11.alloc (.cells #[.int .u64 (wd 0 0), .int .u64 (wd 0 1), .int .u64 (wd 0 2), .int .u64 (wd 0 3), .int .u64 (wd 0 0), .int .u64 (wd 0 1), .int .u64 (wd 0 2), .int .u64 (wd 0 3)] 28)) = w12 := ⟨_, rfl⟩
          have hZ12 : w12.heap[w11.heap.size]? = some (.cells #[.int .u64 (wd 0 0), .int .u64 (wd 0 1), .int .u64 (wd 0 2), .int .u64 (wd 0 3), .int .u64 (wd 0 0), .int .u64 (wd 0 1), .int .u64 (wd 0 2), .int .u64 (wd 0 3)] 28) := by rw [← hq_w12]; exact hp_new _ (by simp)
          have hs_w12 : w12.heap.size = w11.heap.size + 1 := by rw [← hq_w12]; simp
          have hw_w12 : Below w11.heap.size w11 w12 := by rw [← hq_w12]; exact (Below.refl w11.heap.size w11).alloc (Nat.le_refl _) _
          rw [hq_w12]
          clear hq_w12
          clear hZ12 hs_w12
          replace hw5 := below_tr' hw5 hw_w12
          clear hw_w12
          refine (hfs _).mono ?_
          rintro e w14 ⟨rfl, hb⟩
          replace hw5 := below_tr' hw5 hb
          clear hb
          go_wp2_with fail
          obtain ⟨w15, hq_w15⟩ : ∃ w15, (w14.alloc (.cells #[.int .u64 (wd 0 0), .int .u64 (wd 0 1), .int .u64 (wd 0 2), .int .u64 (wd 0 3), .int .u64 (wd 0 0), .int .u64 (wd 0 1), .int .u64 (wd 0 2), .int .u64 (wd 0 3)] 28)) = w15 := ⟨_, rfl⟩
          have hZ15 : w15.heap[w14.heap.size]? = some (.cells #[.int .u64 (wd 0 0), .int .u64 (wd 0 1), .int .u64 (wd 0 2), .int .u64 (wd 0 3), .int .u64 (wd 0 0), .int .u64 (wd 0 1), .int .u64 (wd 0 2), .int .u64 (wd 0 3)] 28) := by rw [← hq_w15]; exact hp_new _ (by simp)
          have hs_w15 : w15.heap.size = w14.heap.size + 1 := by rw [← hq_w15]; simp
          have hw_w15 : Below w14.heap.size w14 w15 := by rw [← hq_w15]; exact (Below.refl w14.heap.size w14).alloc (Nat.le_refl _) _
          rw [hq_w15]
          clear hq_w15
          clear hZ15 hs_w15
          replace hw5 := below_tr' hw5 hw_w15
          clear hw_w15
          refine (awake_any _).mono ?_
          rintro e w16 ⟨rfl, hb⟩
          replace hw5 := below_tr' hw5 hb
          clear hb
          go_wp2_with fail
          go_ret
          exact ⟨rfl, hw5⟩
      
    · have hw5 := ((hw5.alloc (by omega) (.cells (bcells (fun _ => 0) 30) 5)).alloc (by simp; omega) (.cells #[.int .u8 1] 5)).drew
      clear r1 r2 r3 r4 r5 r6 y1 y2 y3 y4 y5 hmk2
      go_wp2_with fail
      generalize ((w8.alloc (.cells (bcells (fun _ => 0) 30) 5)).alloc (.cells #[.int .u8 1] 5)).drew = w10 at *
      have hfh := fun w => from_no rh w rh_lt rh_no
      refine (hfh _).mono ?_
      rintro e w11 ⟨rfl, hb⟩
      replace hw5 := below_tr' hw5 hb
      clear hb
      have hlw := hw5.size
      by_cases ha : s.size = 32
      · have ha2 : (s.size : Int) = 32 := by omega
        have hfs := fun w => pfrom_short ⟨#[]⟩ w (by decide)
        go_wp2_with fail
        obtain ⟨w12, hq_w12⟩ : ∃ w12, (w11.alloc (.cells #[.int .u64 (wd 0 0), .int .u64 (wd 0 1), .int .u64 (wd 0 2), .int .u64 (wd 0 3), .int .u64 (wd 0 0), .int .u64 (wd 0 1), .int .u64 (wd 0 2), .int .u64 (wd 0 3)] 28)) = w12 := ⟨_, rfl⟩
        have hZ12 : w12.heap[w11.heap.size]? = some (.cells #[.int .u64 (wd 0 0), .int .u64 (wd 0 1), .int .u64 (wd 0 2), .int .u64 (wd 0 3), .int .u64 (wd 0 0), .int .u64 (wd 0 1), .int .u64 (wd 0 2), .int .u64 (wd 0 3)] 28) := by rw [← hq_w12]; exact hp_new _ (by simp)
        have hs_w12 : w12.heap.size = w11.heap.size + 1 := by rw [← hq_w12]; simp
        have hw_w12 : Below w11.heap.size w11 w12 := by rw [← hq_w12]; exact (Below.refl w11.heap.size w11).alloc (Nat.le_refl _) _
        rw [hq_w12]
        clear hq_w12
        clear hZ12 hs_w12
        replace hw5 := below_tr' hw5 hw_w12
        clear hw_w12
        refine (hfs _).mono ?_
        rintro e w14 ⟨rfl, hb⟩
        replace hw5 := below_tr' hw5 hb
        clear hb
        go_wp2_with fail
        obtain ⟨w15, hq_w15⟩ : ∃ w15, (w14.alloc (.cells #[.int .u64 (wd 0 0), .int .u64 (wd 0 1), .int .u64 (wd 0 2), .int .u64 (wd 0 3), .int .u64 (wd 0 0), .int .u64 (wd 0 1), .int .u64 (wd 0 2), .int .u64 (wd 0 3)] 28)) = w15 := ⟨_, rfl⟩
        have hZ15 : w15.heap[w14.heap.size]? = some (.cells #[.int .u64 (wd 0 0), .int .u64 (wd 0 1), .int .u64 (wd 0 2), .int .u64 (wd 0 3), .int .u64 (wd 0 0), .int .u64 (wd 0 1), .int .u64 (wd 0 2), .int .u64 (wd 0 3)] 28) := by rw [← hq_w15]; exact hp_new _ (by simp)
        have hs_w15 : w15.heap.size = w14.heap.size + 1 := by rw [← hq_w15]; simp
        have hw_w15 : Below w14.heap.size w14 w15 := by rw [← hq_w15]; exact (Below.refl w14.heap.size w14).alloc (Nat.le_refl _) _
        rw [hq_w15]
        clear hq_w15
        clear hZ15 hs_w15
        replace hw5 := below_tr' hw5 hw_w15
        clear hw_w15
        refine (awake_any _).mono ?_
        rintro e w16 ⟨rfl, hb⟩
        replace hw5 := below_tr' hw5 hb
        clear hb
        go_wp2_with fail
        go_ret
        exact ⟨rfl, hw5⟩
      · have ha2 : ¬ (s.size : Int) = 32 := by omega
        have hfs0 := fun w => pfrom_short ⟨#[]⟩ w (by decide)
        have hfs := fun w => pfrom_short s w ha
        go_wp2_with fail
        · skip
          obtain ⟨w12, hq_w12⟩ : ∃ w12, (w11.alloc (.cells #[.int .u64 (wd 0 0), .int .u64 (wd 0 1), .int .u64 (wd 0 2), .int .u64 (wd 0 3), .int .u64 (wd 0 0), .int .u64 (wd 0 1), .int .u64 (wd 0 2), .int .u64 (wd 0 3)] 28)) = w12 := ⟨_, rfl⟩
          have hZ12 : w12.heap[w11.heap.size]? = some (.cells #[.int .u64 (wd 0 0), .int .u64 (wd 0 1), .int .u64 (wd 0 2), .int .u64 (wd 0 3), .int .u64 (wd 0 0), .int .u64 (wd 0 1), .int .u64 (wd 0 2), .int .u64 (wd 0 3)] 28) := by rw [← hq_w12]; exact hp_new _ (by simp)
          have hs_w12 : w12.heap.size = w11.heap.size + 1 := by rw [← hq_w12]; simp
          have hw_w12 : Below w11.heap.size w11 w12 := by rw [← hq_w12]; exact (Below.refl w11.heap.size w11).alloc (Nat.le_refl _) _
          rw [hq_w12]
          clear hq_w12
          clear hZ12 hs_w12
          replace hw5 := below_tr' hw5 hw_w12
          clear hw_w12
          refine (hfs0 _).mono ?_
          rintro e w14 ⟨rfl, hb⟩
          replace hw5 := below_tr' hw5 hb
          clear hb
          go_wp2_with fail
          obtain ⟨w15, hq_w15⟩ : ∃ w15, (w14.alloc (.cells #[.int .u64 (wd 0 0), .int .u64 (wd 0 1), .int .u64 (wd 0 2), .int .u64 (wd 0 3), .int .u64 (wd 0 0), .int .u64 (wd 0 1), .int .u64 (wd 0 2), .int .u64 (wd 0 3)] 28)) = w15 := ⟨_, rfl⟩
          have hZ15 : w15.heap[w14.heap.size]? = some (.cells #[.int .u64 (wd 0 0), .int .u64 (wd 0 1), .int .u64 (wd 0 2), .int .u64 (wd 0 3), .int .u64 (wd 0 0), .int .u64 (wd 0 1), .int .u64 (wd 0 2), .int .u64 (wd 0 3)] 28) := by rw [← hq_w15]; exact hp_new _ (by simp)
          have hs_w15 : w15.heap.size = w14.heap.size + 1 := by rw [← hq_w15]; simp
          have hw_w15 : Below w14.heap.size w14 w15 := by rw [← hq_w15]; exact (Below.refl w14.heap.size w14).alloc (Nat.le_refl _) _
          rw [hq_w15]
          clear hq_w15
          clear hZ15 hs_w15
          replace hw5 := below_tr' hw5 hw_w15
          clear hw_w15
          refine (awake_any _).mono ?_
          rintro e w16 ⟨rfl, hb⟩
          replace hw5 := below_tr' hw5 hb
          clear hb
          go_wp2_with fail
          go_ret
          exact ⟨rfl, hw5⟩
        · skip
          obtain ⟨w12, hq_w12⟩ : ∃ w12, (w11.alloc (.cells #[.int .u64 (wd 0 0), .int .u64 (wd 0 1), .int .u64 (wd 0 2), .int .u64 (wd 0 3), .int .u64 (wd 0 0), .int .u64 (wd 0 1), .int .u64 (wd 0 2), .int .u64 (wd 0 3)] 28)) = w12 := ⟨_, rfl⟩
          have hZ12 : w12.heap[w11.heap.size]? = some (.cells #[.int .u64 (wd 0 0), .int .u64 (wd 0 1), .int .u64 (wd 0 2), .int .u64 (wd 0 3), .int .u64 (wd 0 0), .int .u64 (wd 0 1), .int .u64 (wd 0 2), .int .u64 (wd 0 3)] 28) := by rw [← hq_w12]; exact hp_new _ (by simp)
          have hs_w12 : w12.heap.size = w11.heap.size + 1 := by rw [← hq_w12]; simp
          have hw_w12 : Below w11.heap.size w11 w12 := by rw [← hq_w12]; exact (Below.refl w11.heap.size w11).alloc (Nat.le_refl _) _
          rw [hq_w12]
          clear hq_w12
          clear hZ12 hs_w12
          replace hw5 := below_tr' hw5 hw_w12
          clear hw_w12
          refine (hfs _).mono ?_
          rintro e w14 ⟨rfl, hb⟩
          replace hw5 := below_tr' hw5 hb
          clear hb
          go_wp2_with fail
          obtain ⟨w15, hq_w15⟩ : ∃ w15, (w14.alloc (.cells #[.int .u64 (wd 0 0), .int .u64 (wd 0 1), .int .u64 (wd 0 2), .int .u64 (wd 0 3), .int .u64 (wd 0 0), .int .u64 (wd 0 1), .int .u64 (wd 0 2), .int .u64 (wd 0 3)] 28)) = w15 := ⟨_, rfl⟩
          have hZ15 : w15.heap[w14.heap.size]? = some (.cells #[.int .u64 (wd 0 0), .int .u64 (wd 0 1), .int .u64 (wd 0 2), .int .u64 (wd 0 3), .int .u64 (wd 0 0), .int .u64 (wd 0 1), .int .u64 (wd 0 2), .int .u64 (wd 0 3)] 28) := by rw [← hq_w15]; exact hp_new _ (by simp)
          have hs_w15 : w15.heap.size = w14.heap.size + 1 := by rw [← hq_w15]; simp
          have hw_w15 : Below w14.heap.size w14 w15 := by rw [← hq_w15]; exact (Below.refl w14.heap.size w14).alloc (Nat.le_refl _) _
          rw [hq_w15]
          clear hq_w15
          clear hZ15 hs_w15
          replace hw5 := below_tr' hw5 hw_w15
          clear hw_w15
          refine (awake_any _).mono ?_
          rintro e w16 ⟨rfl, hb⟩
          replace hw5 := below_tr' hw5 hb
          clear hb
          go_wp2_with fail
          go_ret
          exact ⟨rfl, hw5⟩
      
  · have hw5 := ((hw2.alloc (by omega) (.cells (bcells (fun _ => 0) 31) 5)).alloc (by simp; omega) (.cells #[.int .u8 2] 5)).drew
    clear q1 q2 q3 q4 q5 q6 z1 z2 z3 hmk hw2
    go_wp2_with fail
    generalize ((w4.alloc (.cells (bcells (fun _ => 0) 31) 5)).alloc (.cells #[.int .u8 2] 5)).drew = w5 at *
    have hfg := fun w => from_no rg w rg_lt rg_no
    refine (hfg _).mono ?_
    rintro e w6 ⟨rfl, hb⟩
    replace hw5 := below_tr' hw5 hb
    clear hb
    go_wp2_with fail
    obtain ⟨w8, hq_w8⟩ : ∃ w8, (w6.alloc (.cells #[.int .u64 (wd 0 0), .int .u64 (wd 0 1), .int .u64 (wd 0 2), .int .u64 (wd 0 3), .int .u64 (wd 0 0), .int .u64 (wd 0 1), .int .u64 (wd 0 2), .int .u64 (wd 0 3)] 28)) = w8 := ⟨_, rfl⟩
    have hZ8 : w8.heap[w6.heap.size]? = some (.cells #[.int .u64 (wd 0 0), .int .u64 (wd 0 1), .int .u64 (wd 0 2), .int .u64 (wd 0 3), .int .u64 (wd 0 0), .int .u64 (wd 0 1), .int .u64 (wd 0 2), .int .u64 (wd 0 3)] 28) := by rw [← hq_w8]; exact hp_new _ (by simp)
    have hs_w8 : w8.heap.size = w6.heap.size + 1 := by rw [← hq_w8]; simp
    have hw_w8 : Below w6.heap.size w6 w8 := by rw [← hq_w8]; exact (Below.refl w6.heap.size w6).alloc (Nat.le_refl _) _
    rw [hq_w8]
    clear hq_w8
    clear hZ8 hs_w8
    replace hw5 := below_tr' hw5 hw_w8
    clear hw_w8
    have hmk2 : ∀ w, (Instr.makeSlice 49 (.int .i64 30) (.int .i64 30)).run Try.prog w = .ok (.slice (some ⟨w.heap.size, 0, none⟩) 30 30) (w.alloc (.cells (bcells (fun _ => 0) 30) 5)) := fun w => by kernel_rfl
    have r1 : (convert 49 9 (.slice (some ⟨w8.heap.size, 0, none⟩) 1 1)).run Try.prog (w8.alloc (.cells #[.int .u8 1] 5)).drew = .ok (.string (bstr (fun _ => 1) 1)) (w8.alloc (.cells #[.int .u8 1] 5)).drew := run_bstr (f := (fun _ => 1)) (hp_drew (hp_new _ (by simp))) Try.underlying49 Try.underlying5 Try.underlying9
    have r2 : (convert 49 9 (.slice (some ⟨w8.heap.size, 0, none⟩) 1 1)).run Try.prog ((w8.alloc (.cells #[.int .u8 1] 5)).alloc (.cells (bcells (fun _ => 0) 30) 5)).drew = .ok (.string (bstr (fun _ => 1) 1)) ((w8.alloc (.cells #[.int .u8 1] 5)).alloc (.cells (bcells (fun _ => 0) 30) 5)).drew := run_bstr (f := (fun _ => 1)) (hp_drew (hp_old _ (hp_new _ (by simp)))) Try.underlying49 Try.underlying5 Try.underlying9
    have r3 : (convert 49 9 (.slice (some ⟨w8.heap.size + 1, 0, none⟩) 1 1)).run Try.prog ((w8.alloc (.cells (bcells (fun _ => 0) 30) 5)).alloc (.cells #[.int .u8 1] 5)).drew = .ok (.string (bstr (fun _ => 1) 1)) ((w8.alloc (.cells (bcells (fun _ => 0) 30) 5)).alloc (.cells #[.int .u8 1] 5)).drew := run_bstr (f := (fun _ => 1)) (hp_drew (hp_new _ (by simp))) Try.underlying49 Try.underlying5 Try.underlying9
    have r4 : (convert 49 9 (.slice (some ⟨w8.heap.size, 0, none⟩) 30 30)).run Try.prog (w8.alloc (.cells (bcells (fun _ => 0) 30) 5)).drew = .ok (.string (bstr (fun _ => 0) 30)) (w8.alloc (.cells (bcells (fun _ => 0) 30) 5)).drew := run_bstr (f := (fun _ => 0)) (hp_drew (hp_new _ (by simp))) Try.underlying49 Try.underlying5 Try.underlying9
    have r5 : (convert 49 9 (.slice (some ⟨w8.heap.size, 0, none⟩) 30 30)).run Try.prog ((w8.alloc (.cells (bcells (fun _ => 0) 30) 5)).alloc (.cells #[.int .u8 1] 5)).drew = .ok (.string (bstr (fun _ => 0) 30)) ((w8.alloc (.cells (bcells (fun _ => 0) 30) 5)).alloc (.cells #[.int .u8 1] 5)).drew := run_bstr (f := (fun _ => 0)) (hp_drew (hp_old _ (hp_new _ (by simp)))) Try.underlying49 Try.underlying5 Try.underlying9
    have r6 : (convert 49 9 (.slice (some ⟨w8.heap.size + 1, 0, none⟩) 30 30)).run Try.prog ((w8.alloc (.cells #[.int .u8 1] 5)).alloc (.cells (bcells (fun _ => 0) 30) 5)).drew = .ok (.string (bstr (fun _ => 0) 30)) ((w8.alloc (.cells #[.int .u8 1] 5)).alloc (.cells (bcells (fun _ => 0) 30) 5)).drew := run_bstr (f := (fun _ => 0)) (hp_drew (hp_new _ (by simp))) Try.underlying49 Try.underlying5 Try.underlying9
    have y1 := bstr_size (fun _ => 1) 1
    have y2 := bstr_size (fun _ => 0) 30
    have y3 : bstr (fun _ => 1) 1 ++ bstr (fun _ => 0) 30 = bstr ro 31 := by decide +kernel
    have y4 := bstr_size ro 31
    have y5 : bstr ro 31 ++ ⟨#[128]⟩ = bstr rh 32 := by decide +kernel
    have hsz8 := hw5.size
    go_region
    · have hw5 := ((hw5.alloc (by omega) (.cells #[.int .u8 1] 5)).alloc (by simp; omega) (.cells (bcells (fun _ => 0) 30) 5)).drew
      clear r1 r2 r3 r4 r5 r6 y1 y2 y3 y4 y5 hmk2
      go_wp2_with fail
      generalize ((w8.alloc (.cells #[.int .u8 1] 5)).alloc (.cells (bcells (fun _ => 0) 30) 5)).drew = w10 at *
      have hfh := fun w => from_no rh w rh_lt rh_no
      refine (hfh _).mono ?_
      rintro e w11 ⟨rfl, hb⟩
      replace hw5 := below_tr' hw5 hb
      clear hb
      have hlw := hw5.size
      by_cases ha : s.size = 32
      · have ha2 : (s.size : Int) = 32 := by omega
        have hfs := fun w => pfrom_short ⟨#[]⟩ w (by decide)
        go_wp2_with fail
        obtain ⟨w12, hq_w12⟩ : ∃ w12, (w11.alloc (.cells #[.int .u64 (wd 0 0), .int .u64 (wd 0 1), .int .u64 (wd 0 2), .int .u64 (wd 0 3), .int .u64 (wd 0 0), .int .u64 (wd 0 1), .int .u64 (wd 0 2), .int .u64 (wd 0 3)] 28)) = w12 := ⟨_, rfl⟩
        have hZ12 : w12.heap[w11.heap.size]? = some (.cells #[.int .u64 (wd 0 0), .int .u64 (wd 0 1), .int .u64 (wd 0 2), .int .u64 (wd 0 3), .int .u64 (wd 0 0), .int .u64 (wd 0 1), .int .u64 (wd 0 2), .int .u64 (wd 0 3)] 28) := by rw [← hq_w12]; exact hp_new _ (by simp)
        have hs_w12 : w12.heap.size = w11.heap.size + 1 := by rw [← hq_w12]; simp
        have hw_w12 : Below w11.heap.size w11 w12 := by rw [← hq_w12]; exact (Below.refl w11.heap.size w11).alloc (Nat.le_refl _) _
        rw [hq_w12]
        clear hq_w12
        clear hZ12 hs_w12
        replace hw5 := below_tr' hw5 hw_w12
        clear hw_w12
        refine (hfs _).mono ?_
        rintro e w14 ⟨rfl, hb⟩
        replace hw5 := below_tr' hw5 hb
        clear hb
        go_wp2_with fail
        obtain ⟨w15, hq_w15⟩ : ∃ w15, (w14.alloc (.cells #[.int .u64 (wd 0 0), .int .u64 (wd 0 1), .int .u64 (wd 0 2), .int .u64 (wd 0 3), .int .u64 (wd 0 0), .int .u64 (wd 0 1), .int .u64 (wd 0 2), .int .u64 (wd 0 3)] 28)) = w15 := ⟨_, rfl⟩
        have hZ15 : w15.heap[w14.heap.size]? = some (.cells #[.int .u64 (wd 0 0), .int .u64 (wd 0 1), .int .u64 (wd 0 2), .int .u64 (wd 0 3), .int .u64 (wd 0 0), .int .u64 (wd 0 1), .int .u64 (wd 0 2), .int .u64 (wd 0 3)] 28) := by rw [← hq_w15]; exact hp_new _ (by simp)
        have hs_w15 : w15.heap.size = w14.heap.size + 1 := by rw [← hq_w15]; simp
        have hw_w15 : Below w14.heap.size w14 w15 := by rw [← hq_w15]; exact (Below.refl w14.heap.size w14).alloc (Nat.le_refl _) _
        rw [hq_w15]
        clear hq_w15
        clear hZ15 hs_w15
        replace hw5 := below_tr' hw5 hw_w15
        clear hw_w15
        refine (awake_any _).mono ?_
        rintro e w16 ⟨rfl, hb⟩
        replace hw5 := below_tr' hw5 hb
        clear hb
        go_wp2_with fail
        go_ret
        exact ⟨rfl, hw5⟩
      · have ha2 : ¬ (s.size : Int) = 32 := by omega
        have hfs0 := fun w => pfrom_short ⟨#[]⟩ w (by decide)
        have hfs := fun w => pfrom_short s w ha
        go_wp2_with fail
        · skip
          obtain ⟨w12, hq_w12⟩ : ∃ w12, (w11.alloc (.cells #[.int .u64 (wd 0 0), .int .u64 (wd 0 1), .int .u64 (wd 0 2), .int .u64 (wd 0 3), .int .u64 (wd 0 0), .int .u64 (wd 0 1), .int .u64 (wd 0 2), .int .u64 (wd 0 3)] 28)) = w12 := ⟨_, rfl⟩
          have hZ12 : w12.heap[w11.heap.size]? = some (.cells #[.int .u64 (wd 0 0), .int .u64 (wd 0 1), .int .u64 (wd 0 2), .int .u64 (wd 0 3), .int .u64 (wd 0 0), .int .u64 (wd 0 1), .int .u64 (wd 0 2), .int .u64 (wd 0 3)] 28) := by rw [← hq_w12]; exact hp_new _ (by simp)
          have hs_w12 : w12.heap.size = w11.heap.size + 1 := by rw [← hq_w12]; simp
          have hw_w12 : Below w11.heap.size w11 w12 := by rw [← hq_w12]; exact (Below.refl w11.heap.size w11).alloc (Nat.le_refl _) _
          rw [hq_w12]
          clear hq_w12
          clear hZ12 hs_w12
          replace hw5 := below_tr' hw5 hw_w12
          clear hw_w12
          refine (hfs0 _).mono ?_
          rintro e w14 ⟨rfl, hb⟩
          replace hw5 := below_tr' hw5 hb
          clear hb
          go_wp2_with fail
          obtain ⟨w15, hq_w15⟩ : ∃ w15, (w14.alloc (.cells #[.int .u64 (wd 0 0), .int .u64 (wd 0 1), .int .u64 (wd 0 2), .int .u64 (wd 0 3), .int .u64 (wd 0 0), .int .u64 (wd 0 1), .int .u64 (wd 0 2), .int .u64 (wd 0 3)] 28)) = w15 := ⟨_, rfl⟩
          have hZ15 : w15.heap[w14.heap.size]? = some (.cells #[.int .u64 (wd 0 0), .int .u64 (wd 0 1), .int .u64 (wd 0 2), .int .u64 (wd 0 3), .int .u64 (wd 0 0), .int .u64 (wd 0 1), .int .u64 (wd 0 2), .int .u64 (wd 0 3)] 28) := by rw [← hq_w15]; exact hp_new _ (by simp)
          have hs_w15 : w15.heap.size = w14.heap.size + 1 := by rw [← hq_w15]; simp
          have hw_w15 : Below w14.heap.size w14 w15 := by rw [← hq_w15]; exact (Below.refl w14.heap.size w14).alloc (Nat.le_refl _) _
          rw [hq_w15]
          clear hq_w15
          clear hZ15 hs_w15
          replace hw5 := below_tr' hw5 hw_w15
          clear hw_w15
          refine (awake_any _).mono ?_
          rintro e w16 ⟨rfl, hb⟩
          replace hw5 := below_tr' hw5 hb
          clear hb
          go_wp2_with fail
          go_ret
          exact ⟨rfl, hw5⟩
        · skip
          obtain ⟨w12, hq_w12⟩ : ∃ w12, (w11.alloc (.cells #[.int .u64 (wd 0 0), .int .u64 (wd 0 1), .int .u64 (wd 0 2), .int .u64 (wd 0 3), .int .u64 (wd 0 0), .int .u64 (wd 0 1), .int .u64 (wd 0 2), .int .u64 (wd 0 3)] 28)) = w12 := ⟨_, rfl⟩
          have hZ12 : w12.heap[w11.heap.size]? = some (.cells #[.int .u64 (wd 0 0), .int .u64 (wd 0 1), .int .u64 (wd 0 2), .int .u64 (wd 0 3), .int .u64 (wd 0 0), .int .u64 (wd 0 1), .int .u64 (wd 0 2), .int .u64 (wd 0 3)] 28) := by rw [← hq_w12]; exact hp_new _ (by simp)
          have hs_w12 : w12.heap.size = w11.heap.size + 1 := by rw [← hq_w12]; simp
          have hw_w12 : Below w11.heap.size w11 w12 := by rw [← hq_w12]; exact (Below.refl w11.heap.size w11).alloc (Nat.le_refl _) _
          rw [hq_w12]
          clear hq_w12
          clear hZ12 hs_w12
          replace hw5 := below_tr' hw5 hw_w12
          clear hw_w12
          refine (hfs _).mono ?_
          rintro e w14 ⟨rfl, hb⟩
          replace hw5 := below_tr' hw5 hb
          clear hb
          go_wp2_with fail
          obtain ⟨w15, hq_w15⟩ : ∃ w15, (w14.alloc (.cells #[.int .u64 (wd 0 0), .int .u64 (wd 0 1), .int .u64 (wd 0 2), .int .u64 (wd 0 3), .int .u64 (wd 0 0), .int .u64 (wd 0 1), .int .u64 (wd 0 2), .int .u64 (wd 0 3)] 28)) = w15 := ⟨_, rfl⟩
          have hZ15 : w15.heap[w14.heap.size]? = some (.cells #[.int .u64 (wd 0 0), .int .u64 (wd 0 1), .int .u64 (wd 0 2), .int .u64 (wd 0 3), .int .u64 (wd 0 0), .int .u64 (wd 0 1), .int .u64 (wd 0 2), .int .u64 (wd 0 3)] 28) := by rw [← hq_w15]; exact hp_new _ (by simp)
          have hs_w15 : w15.heap.size = w14.heap.size + 1 := by rw [← hq_w15]; simp
          have hw_w15 : Below w14.heap.size w14 w15 := by rw [← hq_w15]; exact (Below.refl w14.heap.size w14).alloc (Nat.le_refl _) _
          rw [hq_w15]
          clear hq_w15
          clear hZ15 hs_w15
          replace hw5 := below_tr' hw5 hw_w15
          clear hw_w15
          refine (awake_any _).mono ?_
          rintro e w16 ⟨rfl, hb⟩
          replace hw5 := below_tr' hw5 hb
          clear hb
          go_wp2_with fail
          go_ret
          exact ⟨rfl, hw5⟩
      
    · have hw5 := ((hw5.alloc (by omega) (.cells (bcells (fun _ => 0) 30) 5)).alloc (by simp; omega) (.cells #[.int .u8 1] 5)).drew
      clear r1 r2 r3 r4 r5 r6 y1 y2 y3 y4 y5 hmk2
      go_wp2_with fail
      generalize ((w8.alloc (.cells (bcells (fun _ => 0) 30) 5)).alloc (.cells #[.int .u8 1] 5)).drew = w10 at *
      have hfh := fun w => from_no rh w rh_lt rh_no
      refine (hfh _).mono ?_
      rintro e w11 ⟨rfl, hb⟩
      replace hw5 := below_tr' hw5 hb
      clear hb
      have hlw := hw5.size
      by_cases ha : s.size = 32
      · have ha2 : (s.size : Int) = 32 := by omega
        have hfs := fun w => pfrom_short ⟨#[]⟩ w (by decide)
        go_wp2_with fail
        obtain ⟨w12, hq_w12⟩ : ∃ w12, (w11.alloc (.cells #[.int .u64 (wd 0 0), .int .u64 (wd 0 1), .int .u64 (wd 0 2), .int .u64 (wd 0 3), .int .u64 (wd 0 0), .int .u64 (wd 0 1), .int .u64 (wd 0 2), .int .u64 (wd 0 3)] 28)) = w12 := ⟨_, rfl⟩
        have hZ12 : w12.heap[w11.heap.size]? = some (.cells #[.int .u64 (wd 0 0), .int .u64 (wd 0 1), .int .u64 (wd 0 2), .int .u64 (wd 0 3), .int .u64 (wd 0 0), .int .u64 (wd 0 1), .int .u64 (wd 0 2), .int .u64 (wd 0 3)] 28) := by rw [← hq_w12]; exact hp_new _ (by simp)
        have hs_w12 : w12.heap.size = w11.heap.size + 1 := by rw [← hq_w12]; simp
        have hw_w12 : Below w11.heap.size w11 w12 := by rw [← hq_w12]; exact (Below.refl w11.heap.size w11).alloc (Nat.le_refl _) _
        rw [hq_w12]
        clear hq_w12
        clear hZ12 hs_w12
        replace hw5 := below_tr' hw5 hw_w12
        clear hw_w12
        refine (hfs _).mono ?_
        rintro e w14 ⟨rfl, hb⟩
        replace hw5 := below_tr' hw5 hb
        clear hb
        go_wp2_with fail
        obtain ⟨w15, hq_w15⟩ : ∃ w15, (w14.alloc (.cells #[.int .u64 (wd 0 0), .int .u64 (wd 0 1), .int .u64 (wd 0 2), .int .u64 (wd 0 3), .int .u64 (wd 0 0), .int .u64 (wd 0 1), .int .u64 (wd 0 2), .int .u64 (wd 0 3)] 28)) = w15 := ⟨_, rfl⟩
        have hZ15 : w15.heap[w14.heap.size]? = some (.cells #[.int .u64 (wd 0 0), .int .u64 (wd 0 1), .int .u64 (wd 0 2), .int .u64 (wd 0 3), .int .u64 (wd 0 0), .int .u64 (wd 0 1), .int .u64 (wd 0 2), .int .u64 (wd 0 3)] 28) := by rw [← hq_w15]; exact hp_new _ (by simp)
        have hs_w15 : w15.heap.size = w14.heap.size + 1 := by rw [← hq_w15]; simp
        have hw_w15 : Below w14.heap.size w14 w15 := by rw [← hq_w15]; exact (Below.refl w14.heap.size w14).alloc (Nat.le_refl _) _
        rw [hq_w15]
        clear hq_w15
        clear hZ15 hs_w15
        replace hw5 := below_tr' hw5 hw_w15
        clear hw_w15
        refine (awake_any _).mono ?_
        rintro e w16 ⟨rfl, hb⟩
        replace hw5 := below_tr' hw5 hb
        clear hb
        go_wp2_with fail
        go_ret
        exact ⟨rfl, hw5⟩
      · have ha2 : ¬ (s.size : Int) = 32 := by omega
        have hfs0 := fun w => pfrom_short ⟨#[]⟩ w (by decide)
        have hfs := fun w => pfrom_short s w ha
        go_wp2_with fail
        · skip
          obtain ⟨w12, hq_w12⟩ : ∃ w12, (w11.alloc (.cells #[.int .u64 (wd 0 0), .int .u64 (wd 0 1), .int .u64 (wd 0 2), .int .u64 (wd 0 3), .int .u64 (wd 0 0), .int .u64 (wd 0 1), .int .u64 (wd 0 2), .int .u64 (wd 0 3)] 28)) = w12 := ⟨_, rfl⟩
          have hZ12 : w12.heap[w11.heap.size]? = some (.cells #[.int .u64 (wd 0 0), .int .u64 (wd 0 1), .int .u64 (wd 0 2), .int .u64 (wd 0 3), .int .u64 (wd 0 0), .int .u64 (wd 0 1), .int .u64 (wd 0 2), .int .u64 (wd 0 3)] 28) := by rw [← hq_w12]; exact hp_new _ (by simp)
          have hs_w12 : w12.heap.size = w11.heap.size + 1 := by rw [← hq_w12]; simp
          have hw_w12 : Below w11.heap.size w11 w12 := by rw [← hq_w12]; exact (Below.refl w11.heap.size w11).alloc (Nat.le_refl _) _
          rw [hq_w12]
          clear hq_w12
          clear hZ12 hs_w12
          replace hw5 := below_tr' hw5 hw_w12
          clear hw_w12
          refine (hfs0 _).mono ?_
          rintro e w14 ⟨rfl, hb⟩
          replace hw5 := below_tr' hw5 hb
          clear hb
          go_wp2_with fail
          obtain ⟨w15, hq_w15⟩ : ∃ w15, (w14.alloc (.cells #[.int .u64 (wd 0 0), .int .u64 (wd 0 1), .int .u64 (wd 0 2), .int .u64 (wd 0 3), .int .u64 (wd 0 0), .int .u64 (wd 0 1), .int .u64 (wd 0 2), .int .u64 (wd 0 3)] 28)) = w15 := ⟨_, rfl⟩
          have hZ15 : w15.heap[w14.heap.size]? = some (.cells #[.int .u64 (wd 0 0), .int .u64 (wd 0 1), .int .u64 (wd 0 2), .int .u64 (wd 0 3), .int .u64 (wd 0 0), .int .u64 (wd 0 1), .int .u64 (wd 0 2), .int .u64 (wd 0 3)] 28) := by rw [← hq_w15]; exact hp_new _ (by simp)
          have hs_w15 : w15.heap.size = w14.heap.size + 1 := by rw [← hq_w15]; simp
          have hw_w15 : Below w14.heap.size w14 w15 := by rw [← hq_w15]; exact (Below.refl w14.heap.size w14).alloc (Nat.le_refl _) _
          rw [hq_w15]
          clear hq_w15
          clear hZ15 hs_w15
          replace hw5 := below_tr' hw5 hw_w15
          clear hw_w15
          refine (awake_any _).mono ?_
          rintro e w16 ⟨rfl, hb⟩
          replace hw5 := below_tr' hw5 hb
          clear hb
          go_wp2_with fail
          go_ret
          exact ⟨rfl, hw5⟩
        · skip
          obtain ⟨w12, hq_w12⟩ : ∃ w12, (w11.alloc (.cells #[.int .u64 (wd 0 0), .int .u64 (wd 0 1), .int .u64 (wd 0 2), .int .u64 (wd 0 3), .int .u64 (wd 0 0), .int .u64 (wd 0 1), .int .u64 (wd 0 2), .int .u64 (wd 0 3)] 28)) = w12 := ⟨_, rfl⟩
          have hZ12 : w12.heap[w11.heap.size]? = some (.cells #[.int .u64 (wd 0 0), .int .u64 (wd 0 1), .int .u64 (wd 0 2), .int .u64 (wd 0 3), .int .u64 (wd 0 0), .int .u64 (wd 0 1), .int .u64 (wd 0 2), .int .u64 (wd 0 3)] 28) := by rw [← hq_w12]; exact hp_new _ (by simp)
          have hs_w12 : w12.heap.size = w11.heap.size + 1 := by rw [← hq_w12]; simp
          have hw_w12 : Below w11.heap.size w11 w12 := by rw [← hq_w12]; exact (Below.refl w11.heap.size w11).alloc (Nat.le_refl _) _
          rw [hq_w12]
          clear hq_w12
          clear hZ12 hs_w12
          replace hw5 := below_tr' hw5 hw_w12
          clear hw_w12
          refine (hfs _).mono ?_
          rintro e w14 ⟨rfl, hb⟩
          replace hw5 := below_tr' hw5 hb
          clear hb
          go_wp2_with fail
          obtain ⟨w15, hq_w15⟩ : ∃ w15, (w14.alloc (.cells #[.int .u64 (wd 0 0), .int .u64 (wd 0 1), .int .u64 (wd 0 2), .int .u64 (wd 0 3), .int .u64 (wd 0 0), .int .u64 (wd 0 1), .int .u64 (wd 0 2), .int .u64 (wd 0 3)] 28)) = w15 := ⟨_, rfl⟩
          have hZ15 : w15.heap[w14.heap.size]? = some (.cells #[.int .u64 (wd 0 0), .int .u64 (wd 0 1), .int .u64 (wd 0 2), .int .u64 (wd 0 3), .int .u64 (wd 0 0), .int .u64 (wd 0 1), .int .u64 (wd 0 2), .int .u64 (wd 0 3)] 28) := by rw [← hq_w15]; exact hp_new _ (by simp)
          have hs_w15 : w15.heap.size = w14.heap.size + 1 := by rw [← hq_w15]; simp
          have hw_w15 : Below w14.heap.size w14 w15 := by rw [← hq_w15]; exact (Below.refl w14.heap.size w14).alloc (Nat.le_refl _) _
          rw [hq_w15]
          clear hq_w15
          clear hZ15 hs_w15
          replace hw5 := below_tr' hw5 hw_w15
          clear hw_w15
          refine (awake_any _).mono ?_
          rintro e w16 ⟨rfl, hb⟩
          replace hw5 := below_tr' hw5 hb
          clear hb
          go_wp2_with fail
          go_ret
          exact ⟨rfl, hw5⟩
      
end Go.Proofs.Ytdhaedjmlddjcaa
