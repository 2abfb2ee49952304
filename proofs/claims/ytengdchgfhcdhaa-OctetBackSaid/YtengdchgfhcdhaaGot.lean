/- What is said here: the law's 'got': an item that was put is read as itself. -/
import Derived.Test.YtengdchgfhcdhaaPureBack
import Derived.Test.YtengdchgfhcdhaaWorks
import Derived.WalkSpells
import Derived.StillTailTactics
namespace Go.Proofs.Ytengdchgfhcdhaa.Got
set_option linter.unusedVariables false
set_option linter.unusedSimpArgs false
open Go.RowKit Go.Proofs.YtengdchgfhcdhaaW.PrintWords Go.Proofs.YtengdchgfhcdhaaW.PrintLast Go.Proofs.YtengdchgfhcdhaaW.PrintMore

theorem _root_.Go.Proofs.Ytengdchgfhcdhaa.Blk.Is.only {W W' : World} {b g : Nat} {cs : Array Value} {T : TypeId} (h : Blk.Is W b cs T) (ho : Reader.Only g W W') (hne : b ≠ g) : Blk.Is W' b cs T := (ho.block b h.lt hne).trans h
theorem _root_.Go.Proofs.Ytengdchgfhcdhaa.Reader.Only.of_alloc {W W' : World} {g : Nat} (h : Reader.Only g W W') (o : Obj) : Reader.Only g W (W'.alloc o) := h.trans (Reader.Only.of_below ((Below.refl _ _).alloc (Nat.le_refl _) o))
theorem _root_.Go.Proofs.Ytengdchgfhcdhaa.Reader.Is.alloc {W : World} {base g : Nat} {A : Option Addr} {c : Nat} {s : Reader.St} (h : Reader.Is W base g A c s) (o : Obj) : Reader.Is (W.alloc o) base g A c s := h.below ((Below.refl _ _).alloc (Nat.le_refl _) o)

set_option maxHeartbeats 2000000 in
theorem gotU16 (g base : Nat) (A : Option Addr) (c : Nat) (s : Reader.St) (k v : Int) (t : ByteArray) (w : World) (h : Reader.Is w base g A c s) (hv : Reader.num (s.takeL 2) % 65536 = IntKind.u16.wrap v) (hk : k.tmod 5 = 1) :
    Calls Try.prog 34 #[.pointer (some ⟨g, 0, none⟩), .agg #[.int .i64 k, .int .u64 v, .string t]] w fun e w' => e = .returned (.bool true) ∧ Reader.Is w' base g A c (s.takeS 2) ∧ Reader.Only g w w' := by
    have HCALL : Hid (∀ W, Reader.Is W base g A c s → Calls Try.prog 26 #[.pointer (some ⟨g, 0, none⟩)] W fun e w' => e = .returned (.int .u16 (IntKind.u16.wrap v)) ∧ Reader.Is w' base g A c (s.takeS 2) ∧ Reader.Only g W w') := fun W hW => by
      have := Reader.U16_calls g base A c s W hW
      rw [hv] at this
      exact this
    have hne : w.heap.size ≠ g := Nat.ne_of_gt h.lt
    have HR := Lib.hid h
    have HX := Lib.hid (Blk.Is.new w #[.int .i64 k, .int .u64 v, .string t] 59)
    clear h hv
    generalize (s.takeS 2) = s2 at *
    have b1 : (k.tmod 5 == 1) = true := beq_iff_eq.mpr hk
    go_enter Try.func34, Try.ntmps34
    go_wp2
    -- region 3
    refine start_ (n := 7) (S := fun w' => w'.cell? ⟨w.heap.size, 1, none⟩ = some (.int .u64 v)) (ds := []) #[false, false, false, false, false, false, false] (by kernel_rfl) rfl rfl (((HX.out.drewN 1).cell 1)) (fun hHeld => ?_)
    have HX1 := Lib.hid (HX.out.drewN 1)
    have HR1 := Lib.hid ((HR.out.alloc (.cells #[.int .i64 k, .int .u64 v, .string t] 59)).drewN 1)
    have HO1 := Lib.hid (((Reader.Only.refl g w).of_alloc (.cells #[.int .i64 k, .int .u64 v, .string t] 59)).drewN 1)
    clear HX HR
    change Hid (Blk.Is (w.alloc _).drew _ _ _) at HX1
    change Hid (Reader.Is (w.alloc _).drew _ _ _ _ _) at HR1
    change Hid (Reader.Only _ _ (w.alloc _).drew) at HO1
    generalize (w.alloc (.cells #[.int .i64 k, .int .u64 v, .string t] 59)).drew = w1 at *
    refine pure_ (i := 0) (N := some 10) (v := ?_) (a' := ?_) #[true, false, false, false, false, false, false] rfl rfl (by kernel_rfl) (fun _ _ _ h => h) (Or.inl ⟨by rfl, ?_⟩) ?_ ?_
    rotate_left
    · intro w'
      go_simp
      with_reducible rfl
    rotate_left
    · simp only [Act.put, List.setIfInBounds_toArray, List.set_cons_zero, List.set_cons_succ, i64_w, i32_w]
      rfl
    refine pure_ (i := 2) (N := some 12) (v := ?_) (a' := ?_) #[true, false, true, false, false, false, false] rfl rfl (by kernel_rfl) (fun _ _ _ h => h) (Or.inl ⟨by rfl, ?_⟩) ?_ ?_
    rotate_left
    · intro w'
      go_simp
      with_reducible rfl
    rotate_left
    · simp only [Act.put, List.setIfInBounds_toArray, List.set_cons_zero, List.set_cons_succ, i64_w, i32_w]
      rfl
    refine take_ (i := 3) (N := some 13) (v := ?_) (a' := ?_) #[true, false, true, true, false, false, false] rfl rfl (by kernel_rfl) (fun _ _ _ h => h) (Or.inl ⟨by rfl, ?_⟩) hHeld ?_ ?_
    rotate_left
    · intro w' s0
      go_simp
      with_reducible rfl
    rotate_left
    · simp only [Act.put, List.setIfInBounds_toArray, List.set_cons_zero, List.set_cons_succ, i64_w, i32_w]
      rfl
    refine pure_ (i := 4) (N := some 14) (v := ?_) (a' := ?_) #[true, false, true, true, true, false, false] rfl rfl (by kernel_rfl) (fun _ _ _ h => h) (Or.inl ⟨by rfl, ?_⟩) ?_ ?_
    rotate_left
    · intro w'
      go_simp
      with_reducible rfl
    rotate_left
    · simp only [Act.put, List.setIfInBounds_toArray, List.set_cons_zero, List.set_cons_succ, i64_w, i32_w]
      rfl
    refine one_ (i := 1) (N := some 11) #[true, true, true, true, true, false, false] rfl rfl (by kernel_rfl) (by decide) (fun K hK => ?_)
    refine goes_ Try.func26 (by kernel_rfl) rfl #[.pointer (some ⟨g, 0, none⟩)] (by rfl) rfl rfl (by simp only [List.map_toArray, List.map_cons, List.map_nil]; rfl) ?_
    with_reducible refine (HCALL.out _ HR1.out).mono ?_
    rintro e w2 ⟨rfl, hI, hO⟩
    refine ⟨_, rfl, ?_⟩
    have HI2 := Lib.hid hI
    have HO2 := Lib.hid hO
    have HX2 := Lib.hid (HX1.out.only hO hne)
    clear hI hO HX1 HR1
    refine hK.out _ _ ((HX2.out.cell 1)) (fun hHeld => ?_)
    clear hK K
    refine norm_ (a' := ?_) ?_ ?_
    rotate_left
    · show Act.put _ (some 11) _ = _
      simp only [Act.put, List.setIfInBounds_toArray, List.set_cons_zero, List.set_cons_succ, i64_w, i32_w]
      rfl
    refine pure_ (i := 5) (N := some 15) (v := ?_) (a' := ?_) #[true, true, true, true, true, true, false] rfl rfl (by kernel_rfl) (fun _ _ _ h => h) (Or.inl ⟨by rfl, ?_⟩) ?_ ?_
    rotate_left
    · intro w'
      go_simp
      with_reducible rfl
    rotate_left
    · simp only [Act.put, List.setIfInBounds_toArray, List.set_cons_zero, List.set_cons_succ, i64_w, i32_w]
      rfl
    refine pure_ (i := 6) (N := some 4) (v := ?_) (a' := ?_) #[true, true, true, true, true, true, true] rfl rfl (by kernel_rfl) (fun _ _ _ h => h) (Or.inl ⟨by rfl, ?_⟩) ?_ ?_
    rotate_left
    · intro w'
      go_simp
      with_reducible rfl
    rotate_left
    · simp only [Act.put, List.setIfInBounds_toArray, List.set_cons_zero, List.set_cons_succ, i64_w, i32_w]
      rfl
    refine done_ (by kernel_rfl) ?_
    go_wp2
    go_ret
    exact ⟨rfl, HI2.out, HO1.out.trans HO2.out⟩

set_option maxHeartbeats 2000000 in
theorem gotU32 (g base : Nat) (A : Option Addr) (c : Nat) (s : Reader.St) (k v : Int) (t : ByteArray) (w : World) (h : Reader.Is w base g A c s) (hv : Reader.num (s.takeL 4) % 4294967296 = IntKind.u32.wrap v) (hk : k.tmod 5 = 2) :
    Calls Try.prog 34 #[.pointer (some ⟨g, 0, none⟩), .agg #[.int .i64 k, .int .u64 v, .string t]] w fun e w' => e = .returned (.bool true) ∧ Reader.Is w' base g A c (s.takeS 4) ∧ Reader.Only g w w' := by
    have HCALL : Hid (∀ W, Reader.Is W base g A c s → Calls Try.prog 27 #[.pointer (some ⟨g, 0, none⟩)] W fun e w' => e = .returned (.int .u32 (IntKind.u32.wrap v)) ∧ Reader.Is w' base g A c (s.takeS 4) ∧ Reader.Only g W w') := fun W hW => by
      have := Reader.U32_calls g base A c s W hW
      rw [hv] at this
      exact this
    have hne : w.heap.size ≠ g := Nat.ne_of_gt h.lt
    have HR := Lib.hid h
    have HX := Lib.hid (Blk.Is.new w #[.int .i64 k, .int .u64 v, .string t] 59)
    clear h hv
    generalize (s.takeS 4) = s2 at *
    have b1 : (k.tmod 5 == 1) = false := by rw [hk]; rfl
    have b2 : (k.tmod 5 == 2) = true := beq_iff_eq.mpr hk
    go_enter Try.func34, Try.ntmps34
    go_wp2
    -- region 5
    refine start_ (n := 7) (S := fun w' => w'.cell? ⟨w.heap.size, 1, none⟩ = some (.int .u64 v)) (ds := []) #[false, false, false, false, false, false, false] (by kernel_rfl) rfl rfl (((HX.out.drewN 1).cell 1)) (fun hHeld => ?_)
    have HX1 := Lib.hid (HX.out.drewN 1)
    have HR1 := Lib.hid ((HR.out.alloc (.cells #[.int .i64 k, .int .u64 v, .string t] 59)).drewN 1)
    have HO1 := Lib.hid (((Reader.Only.refl g w).of_alloc (.cells #[.int .i64 k, .int .u64 v, .string t] 59)).drewN 1)
    clear HX HR
    change Hid (Blk.Is (w.alloc _).drew _ _ _) at HX1
    change Hid (Reader.Is (w.alloc _).drew _ _ _ _ _) at HR1
    change Hid (Reader.Only _ _ (w.alloc _).drew) at HO1
    generalize (w.alloc (.cells #[.int .i64 k, .int .u64 v, .string t] 59)).drew = w1 at *
    refine pure_ (i := 0) (N := some 18) (v := ?_) (a' := ?_) #[true, false, false, false, false, false, false] rfl rfl (by kernel_rfl) (fun _ _ _ h => h) (Or.inl ⟨by rfl, ?_⟩) ?_ ?_
    rotate_left
    · intro w'
      go_simp
      with_reducible rfl
    rotate_left
    · simp only [Act.put, List.setIfInBounds_toArray, List.set_cons_zero, List.set_cons_succ, i64_w, i32_w]
      rfl
    refine pure_ (i := 2) (N := some 20) (v := ?_) (a' := ?_) #[true, false, true, false, false, false, false] rfl rfl (by kernel_rfl) (fun _ _ _ h => h) (Or.inl ⟨by rfl, ?_⟩) ?_ ?_
    rotate_left
    · intro w'
      go_simp
      with_reducible rfl
    rotate_left
    · simp only [Act.put, List.setIfInBounds_toArray, List.set_cons_zero, List.set_cons_succ, i64_w, i32_w]
      rfl
    refine take_ (i := 3) (N := some 21) (v := ?_) (a' := ?_) #[true, false, true, true, false, false, false] rfl rfl (by kernel_rfl) (fun _ _ _ h => h) (Or.inl ⟨by rfl, ?_⟩) hHeld ?_ ?_
    rotate_left
    · intro w' s0
      go_simp
      with_reducible rfl
    rotate_left
    · simp only [Act.put, List.setIfInBounds_toArray, List.set_cons_zero, List.set_cons_succ, i64_w, i32_w]
      rfl
    refine pure_ (i := 4) (N := some 22) (v := ?_) (a' := ?_) #[true, false, true, true, true, false, false] rfl rfl (by kernel_rfl) (fun _ _ _ h => h) (Or.inl ⟨by rfl, ?_⟩) ?_ ?_
    rotate_left
    · intro w'
      go_simp
      with_reducible rfl
    rotate_left
    · simp only [Act.put, List.setIfInBounds_toArray, List.set_cons_zero, List.set_cons_succ, i64_w, i32_w]
      rfl
    refine one_ (i := 1) (N := some 19) #[true, true, true, true, true, false, false] rfl rfl (by kernel_rfl) (by decide) (fun K hK => ?_)
    refine goes_ Try.func27 (by kernel_rfl) rfl #[.pointer (some ⟨g, 0, none⟩)] (by rfl) rfl rfl (by simp only [List.map_toArray, List.map_cons, List.map_nil]; rfl) ?_
    with_reducible refine (HCALL.out _ HR1.out).mono ?_
    rintro e w2 ⟨rfl, hI, hO⟩
    refine ⟨_, rfl, ?_⟩
    have HI2 := Lib.hid hI
    have HO2 := Lib.hid hO
    have HX2 := Lib.hid (HX1.out.only hO hne)
    clear hI hO HX1 HR1
    refine hK.out _ _ ((HX2.out.cell 1)) (fun hHeld => ?_)
    clear hK K
    refine norm_ (a' := ?_) ?_ ?_
    rotate_left
    · show Act.put _ (some 19) _ = _
      simp only [Act.put, List.setIfInBounds_toArray, List.set_cons_zero, List.set_cons_succ, i64_w, i32_w]
      rfl
    refine pure_ (i := 5) (N := some 23) (v := ?_) (a' := ?_) #[true, true, true, true, true, true, false] rfl rfl (by kernel_rfl) (fun _ _ _ h => h) (Or.inl ⟨by rfl, ?_⟩) ?_ ?_
    rotate_left
    · intro w'
      go_simp
      with_reducible rfl
    rotate_left
    · simp only [Act.put, List.setIfInBounds_toArray, List.set_cons_zero, List.set_cons_succ, i64_w, i32_w]
      rfl
    refine pure_ (i := 6) (N := some 4) (v := ?_) (a' := ?_) #[true, true, true, true, true, true, true] rfl rfl (by kernel_rfl) (fun _ _ _ h => h) (Or.inl ⟨by rfl, ?_⟩) ?_ ?_
    rotate_left
    · intro w'
      go_simp
      with_reducible rfl
    rotate_left
    · simp only [Act.put, List.setIfInBounds_toArray, List.set_cons_zero, List.set_cons_succ, i64_w, i32_w]
      rfl
    refine done_ (by kernel_rfl) ?_
    go_wp2
    go_ret
    exact ⟨rfl, HI2.out, HO1.out.trans HO2.out⟩

set_option maxHeartbeats 2000000 in
theorem gotU64 (g base : Nat) (A : Option Addr) (c : Nat) (s : Reader.St) (k v : Int) (t : ByteArray) (w : World) (h : Reader.Is w base g A c s) (hv : Reader.num (s.takeL 8) = v) (hk : k.tmod 5 = 3) :
    Calls Try.prog 34 #[.pointer (some ⟨g, 0, none⟩), .agg #[.int .i64 k, .int .u64 v, .string t]] w fun e w' => e = .returned (.bool true) ∧ Reader.Is w' base g A c (s.takeS 8) ∧ Reader.Only g w w' := by
    have HCALL : Hid (∀ W, Reader.Is W base g A c s → Calls Try.prog 28 #[.pointer (some ⟨g, 0, none⟩)] W fun e w' => e = .returned (.int .u64 v) ∧ Reader.Is w' base g A c (s.takeS 8) ∧ Reader.Only g W w') := fun W hW => by
      have := Reader.U64_calls g base A c s W hW
      rw [hv] at this
      exact this
    have hne : w.heap.size ≠ g := Nat.ne_of_gt h.lt
    have HR := Lib.hid h
    have HX := Lib.hid (Blk.Is.new w #[.int .i64 k, .int .u64 v, .string t] 59)
    clear h hv
    generalize (s.takeS 8) = s2 at *
    have b1 : (k.tmod 5 == 1) = false := by rw [hk]; rfl
    have b2 : (k.tmod 5 == 2) = false := by rw [hk]; rfl
    have b3 : (k.tmod 5 == 3) = true := beq_iff_eq.mpr hk
    go_enter Try.func34, Try.ntmps34
    go_wp2
    -- region 7
    refine start_ (n := 6) (S := fun w' => w'.cell? ⟨w.heap.size, 1, none⟩ = some (.int .u64 v)) (ds := []) #[false, false, false, false, false, false] (by kernel_rfl) rfl rfl (((HX.out.drewN 1).cell 1)) (fun hHeld => ?_)
    have HX1 := Lib.hid (HX.out.drewN 1)
    have HR1 := Lib.hid ((HR.out.alloc (.cells #[.int .i64 k, .int .u64 v, .string t] 59)).drewN 1)
    have HO1 := Lib.hid (((Reader.Only.refl g w).of_alloc (.cells #[.int .i64 k, .int .u64 v, .string t] 59)).drewN 1)
    clear HX HR
    change Hid (Blk.Is (w.alloc _).drew _ _ _) at HX1
    change Hid (Reader.Is (w.alloc _).drew _ _ _ _ _) at HR1
    change Hid (Reader.Only _ _ (w.alloc _).drew) at HO1
    generalize (w.alloc (.cells #[.int .i64 k, .int .u64 v, .string t] 59)).drew = w1 at *
    refine pure_ (i := 0) (N := some 26) (v := ?_) (a' := ?_) #[true, false, false, false, false, false] rfl rfl (by kernel_rfl) (fun _ _ _ h => h) (Or.inl ⟨by rfl, ?_⟩) ?_ ?_
    rotate_left
    · intro w'
      go_simp
      with_reducible rfl
    rotate_left
    · simp only [Act.put, List.setIfInBounds_toArray, List.set_cons_zero, List.set_cons_succ, i64_w, i32_w]
      rfl
    refine pure_ (i := 2) (N := some 28) (v := ?_) (a' := ?_) #[true, false, true, false, false, false] rfl rfl (by kernel_rfl) (fun _ _ _ h => h) (Or.inl ⟨by rfl, ?_⟩) ?_ ?_
    rotate_left
    · intro w'
      go_simp
      with_reducible rfl
    rotate_left
    · simp only [Act.put, List.setIfInBounds_toArray, List.set_cons_zero, List.set_cons_succ, i64_w, i32_w]
      rfl
    refine take_ (i := 3) (N := some 29) (v := ?_) (a' := ?_) #[true, false, true, true, false, false] rfl rfl (by kernel_rfl) (fun _ _ _ h => h) (Or.inl ⟨by rfl, ?_⟩) hHeld ?_ ?_
    rotate_left
    · intro w' s0
      go_simp
      with_reducible rfl
    rotate_left
    · simp only [Act.put, List.setIfInBounds_toArray, List.set_cons_zero, List.set_cons_succ, i64_w, i32_w]
      rfl
    refine one_ (i := 1) (N := some 27) #[true, true, true, true, false, false] rfl rfl (by kernel_rfl) (by decide) (fun K hK => ?_)
    refine goes_ Try.func28 (by kernel_rfl) rfl #[.pointer (some ⟨g, 0, none⟩)] (by rfl) rfl rfl (by simp only [List.map_toArray, List.map_cons, List.map_nil]; rfl) ?_
    with_reducible refine (HCALL.out _ HR1.out).mono ?_
    rintro e w2 ⟨rfl, hI, hO⟩
    refine ⟨_, rfl, ?_⟩
    have HI2 := Lib.hid hI
    have HO2 := Lib.hid hO
    have HX2 := Lib.hid (HX1.out.only hO hne)
    clear hI hO HX1 HR1
    refine hK.out _ _ ((HX2.out.cell 1)) (fun hHeld => ?_)
    clear hK K
    refine norm_ (a' := ?_) ?_ ?_
    rotate_left
    · show Act.put _ (some 27) _ = _
      simp only [Act.put, List.setIfInBounds_toArray, List.set_cons_zero, List.set_cons_succ, i64_w, i32_w]
      rfl
    refine pure_ (i := 4) (N := some 30) (v := ?_) (a' := ?_) #[true, true, true, true, true, false] rfl rfl (by kernel_rfl) (fun _ _ _ h => h) (Or.inl ⟨by rfl, ?_⟩) ?_ ?_
    rotate_left
    · intro w'
      go_simp
      with_reducible rfl
    rotate_left
    · simp only [Act.put, List.setIfInBounds_toArray, List.set_cons_zero, List.set_cons_succ, i64_w, i32_w]
      rfl
    refine pure_ (i := 5) (N := some 4) (v := ?_) (a' := ?_) #[true, true, true, true, true, true] rfl rfl (by kernel_rfl) (fun _ _ _ h => h) (Or.inl ⟨by rfl, ?_⟩) ?_ ?_
    rotate_left
    · intro w'
      go_simp
      with_reducible rfl
    rotate_left
    · simp only [Act.put, List.setIfInBounds_toArray, List.set_cons_zero, List.set_cons_succ, i64_w, i32_w]
      rfl
    refine done_ (by kernel_rfl) ?_
    go_wp2
    go_ret
    exact ⟨rfl, HI2.out, HO1.out.trans HO2.out⟩

set_option maxHeartbeats 2000000 in
theorem gotText (g base : Nat) (A : Option Addr) (c : Nat) (s : Reader.St) (k v : Int) (t : ByteArray) (w : World) (h : Reader.Is w base g A c s) (hv : strOfNums s.textL = t) (hk : k.tmod 5 = 4) :
    Calls Try.prog 34 #[.pointer (some ⟨g, 0, none⟩), .agg #[.int .i64 k, .int .u64 v, .string t]] w fun e w' => e = .returned (.bool true) ∧ Reader.Is w' base g A c s.textS ∧ Reader.Only g w w' := by
    have HCALL : Hid (∀ W, Reader.Is W base g A c s → Calls Try.prog 30 #[.pointer (some ⟨g, 0, none⟩)] W fun e w' => e = .returned (.string t) ∧ Reader.Is w' base g A c s.textS ∧ Reader.Only g W w') := fun W hW => by
      have := Reader.Text_calls g base A c s W hW
      rw [hv] at this
      exact this
    have hne : w.heap.size ≠ g := Nat.ne_of_gt h.lt
    have HR := Lib.hid h
    have HX := Lib.hid (Blk.Is.new w #[.int .i64 k, .int .u64 v, .string t] 59)
    clear h hv
    generalize s.textS = s2 at *
    have b1 : (k.tmod 5 == 1) = false := by rw [hk]; rfl
    have b2 : (k.tmod 5 == 2) = false := by rw [hk]; rfl
    have b3 : (k.tmod 5 == 3) = false := by rw [hk]; rfl
    have b4 : (k.tmod 5 == 4) = true := beq_iff_eq.mpr hk
    go_enter Try.func34, Try.ntmps34
    go_wp2
    -- region 9
    refine start_ (n := 6) (S := fun w' => w'.cell? ⟨w.heap.size, 2, none⟩ = some (.string t)) (ds := []) #[false, false, false, false, false, false] (by kernel_rfl) rfl rfl (((HX.out.drewN 1).cell 2)) (fun hHeld => ?_)
    have HX1 := Lib.hid (HX.out.drewN 1)
    have HR1 := Lib.hid ((HR.out.alloc (.cells #[.int .i64 k, .int .u64 v, .string t] 59)).drewN 1)
    have HO1 := Lib.hid (((Reader.Only.refl g w).of_alloc (.cells #[.int .i64 k, .int .u64 v, .string t] 59)).drewN 1)
    clear HX HR
    change Hid (Blk.Is (w.alloc _).drew _ _ _) at HX1
    change Hid (Reader.Is (w.alloc _).drew _ _ _ _ _) at HR1
    change Hid (Reader.Only _ _ (w.alloc _).drew) at HO1
    generalize (w.alloc (.cells #[.int .i64 k, .int .u64 v, .string t] 59)).drew = w1 at *
    refine pure_ (i := 0) (N := some 33) (v := ?_) (a' := ?_) #[true, false, false, false, false, false] rfl rfl (by kernel_rfl) (fun _ _ _ h => h) (Or.inl ⟨by rfl, ?_⟩) ?_ ?_
    rotate_left
    · intro w'
      go_simp
      with_reducible rfl
    rotate_left
    · simp only [Act.put, List.setIfInBounds_toArray, List.set_cons_zero, List.set_cons_succ, i64_w, i32_w]
      rfl
    refine pure_ (i := 2) (N := some 35) (v := ?_) (a' := ?_) #[true, false, true, false, false, false] rfl rfl (by kernel_rfl) (fun _ _ _ h => h) (Or.inl ⟨by rfl, ?_⟩) ?_ ?_
    rotate_left
    · intro w'
      go_simp
      with_reducible rfl
    rotate_left
    · simp only [Act.put, List.setIfInBounds_toArray, List.set_cons_zero, List.set_cons_succ, i64_w, i32_w]
      rfl
    refine take_ (i := 3) (N := some 36) (v := ?_) (a' := ?_) #[true, false, true, true, false, false] rfl rfl (by kernel_rfl) (fun _ _ _ h => h) (Or.inl ⟨by rfl, ?_⟩) hHeld ?_ ?_
    rotate_left
    · intro w' s0
      go_simp
      with_reducible rfl
    rotate_left
    · simp only [Act.put, List.setIfInBounds_toArray, List.set_cons_zero, List.set_cons_succ, i64_w, i32_w]
      rfl
    refine one_ (i := 1) (N := some 34) #[true, true, true, true, false, false] rfl rfl (by kernel_rfl) (by decide) (fun K hK => ?_)
    refine goes_ Try.func30 (by kernel_rfl) rfl #[.pointer (some ⟨g, 0, none⟩)] (by rfl) rfl rfl (by simp only [List.map_toArray, List.map_cons, List.map_nil]; rfl) ?_
    with_reducible refine (HCALL.out _ HR1.out).mono ?_
    rintro e w2 ⟨rfl, hI, hO⟩
    refine ⟨_, rfl, ?_⟩
    have HI2 := Lib.hid hI
    have HO2 := Lib.hid hO
    have HX2 := Lib.hid (HX1.out.only hO hne)
    clear hI hO HX1 HR1
    refine hK.out _ _ ((HX2.out.cell 2)) (fun hHeld => ?_)
    clear hK K
    refine norm_ (a' := ?_) ?_ ?_
    rotate_left
    · show Act.put _ (some 34) _ = _
      simp only [Act.put, List.setIfInBounds_toArray, List.set_cons_zero, List.set_cons_succ, i64_w, i32_w]
      rfl
    refine pure_ (i := 4) (N := some 37) (v := ?_) (a' := ?_) #[true, true, true, true, true, false] rfl rfl (by kernel_rfl) (fun _ _ _ h => h) (Or.inl ⟨by rfl, ?_⟩) ?_ ?_
    rotate_left
    · intro w'
      go_simp
      with_reducible rfl
    rotate_left
    · simp only [Act.put, List.setIfInBounds_toArray, List.set_cons_zero, List.set_cons_succ, i64_w, i32_w]
      rfl
    refine pure_ (i := 5) (N := some 4) (v := ?_) (a' := ?_) #[true, true, true, true, true, true] rfl rfl (by kernel_rfl) (fun _ _ _ h => h) (Or.inl ⟨by rfl, ?_⟩) ?_ ?_
    rotate_left
    · intro w'
      go_simp
      with_reducible rfl
    rotate_left
    · simp only [Act.put, List.setIfInBounds_toArray, List.set_cons_zero, List.set_cons_succ, i64_w, i32_w]
      rfl
    refine done_ (by kernel_rfl) ?_
    go_wp2
    go_ret
    exact ⟨rfl, HI2.out, HO1.out.trans HO2.out⟩

set_option maxHeartbeats 2000000 in
theorem gotU8 (g base : Nat) (A : Option Addr) (c : Nat) (s : Reader.St) (k v : Int) (t : ByteArray) (w : World) (h : Reader.Is w base g A c s) (hv : Reader.num (s.takeL 1) % 256 = IntKind.u8.wrap v) (hk1 : k.tmod 5 ≠ 1) (hk2 : k.tmod 5 ≠ 2) (hk3 : k.tmod 5 ≠ 3) (hk4 : k.tmod 5 ≠ 4) :
    Calls Try.prog 34 #[.pointer (some ⟨g, 0, none⟩), .agg #[.int .i64 k, .int .u64 v, .string t]] w fun e w' => e = .returned (.bool true) ∧ Reader.Is w' base g A c (s.takeS 1) ∧ Reader.Only g w w' := by
    have HCALL : Hid (∀ W, Reader.Is W base g A c s → Calls Try.prog 25 #[.pointer (some ⟨g, 0, none⟩)] W fun e w' => e = .returned (.int .u8 (IntKind.u8.wrap v)) ∧ Reader.Is w' base g A c (s.takeS 1) ∧ Reader.Only g W w') := fun W hW => by
      have := Reader.U8_calls g base A c s W hW
      rw [hv] at this
      exact this
    have hne : w.heap.size ≠ g := Nat.ne_of_gt h.lt
    have HR := Lib.hid h
    have HX := Lib.hid (Blk.Is.new w #[.int .i64 k, .int .u64 v, .string t] 59)
    clear h hv
    generalize (s.takeS 1) = s2 at *
    have b1 : (k.tmod 5 == 1) = false := beq_eq_false_iff_ne.mpr hk1
    have b2 : (k.tmod 5 == 2) = false := beq_eq_false_iff_ne.mpr hk2
    have b3 : (k.tmod 5 == 3) = false := beq_eq_false_iff_ne.mpr hk3
    have b4 : (k.tmod 5 == 4) = false := beq_eq_false_iff_ne.mpr hk4
    go_enter Try.func34, Try.ntmps34
    go_wp2
    -- region 10
    refine start_ (n := 7) (S := fun w' => w'.cell? ⟨w.heap.size, 1, none⟩ = some (.int .u64 v)) (ds := []) #[false, false, false, false, false, false, false] (by kernel_rfl) rfl rfl (((HX.out.drewN 1).cell 1)) (fun hHeld => ?_)
    have HX1 := Lib.hid (HX.out.drewN 1)
    have HR1 := Lib.hid ((HR.out.alloc (.cells #[.int .i64 k, .int .u64 v, .string t] 59)).drewN 1)
    have HO1 := Lib.hid (((Reader.Only.refl g w).of_alloc (.cells #[.int .i64 k, .int .u64 v, .string t] 59)).drewN 1)
    clear HX HR
    change Hid (Blk.Is (w.alloc _).drew _ _ _) at HX1
    change Hid (Reader.Is (w.alloc _).drew _ _ _ _ _) at HR1
    change Hid (Reader.Only _ _ (w.alloc _).drew) at HO1
    generalize (w.alloc (.cells #[.int .i64 k, .int .u64 v, .string t] 59)).drew = w1 at *
    refine pure_ (i := 0) (N := some 38) (v := ?_) (a' := ?_) #[true, false, false, false, false, false, false] rfl rfl (by kernel_rfl) (fun _ _ _ h => h) (Or.inl ⟨by rfl, ?_⟩) ?_ ?_
    rotate_left
    · intro w'
      go_simp
      with_reducible rfl
    rotate_left
    · simp only [Act.put, List.setIfInBounds_toArray, List.set_cons_zero, List.set_cons_succ, i64_w, i32_w]
      rfl
    refine pure_ (i := 2) (N := some 40) (v := ?_) (a' := ?_) #[true, false, true, false, false, false, false] rfl rfl (by kernel_rfl) (fun _ _ _ h => h) (Or.inl ⟨by rfl, ?_⟩) ?_ ?_
    rotate_left
    · intro w'
      go_simp
      with_reducible rfl
    rotate_left
    · simp only [Act.put, List.setIfInBounds_toArray, List.set_cons_zero, List.set_cons_succ, i64_w, i32_w]
      rfl
    refine take_ (i := 3) (N := some 41) (v := ?_) (a' := ?_) #[true, false, true, true, false, false, false] rfl rfl (by kernel_rfl) (fun _ _ _ h => h) (Or.inl ⟨by rfl, ?_⟩) hHeld ?_ ?_
    rotate_left
    · intro w' s0
      go_simp
      with_reducible rfl
    rotate_left
    · simp only [Act.put, List.setIfInBounds_toArray, List.set_cons_zero, List.set_cons_succ, i64_w, i32_w]
      rfl
    refine pure_ (i := 4) (N := some 42) (v := ?_) (a' := ?_) #[true, false, true, true, true, false, false] rfl rfl (by kernel_rfl) (fun _ _ _ h => h) (Or.inl ⟨by rfl, ?_⟩) ?_ ?_
    rotate_left
    · intro w'
      go_simp
      with_reducible rfl
    rotate_left
    · simp only [Act.put, List.setIfInBounds_toArray, List.set_cons_zero, List.set_cons_succ, i64_w, i32_w]
      rfl
    refine one_ (i := 1) (N := some 39) #[true, true, true, true, true, false, false] rfl rfl (by kernel_rfl) (by decide) (fun K hK => ?_)
    refine goes_ Try.func25 (by kernel_rfl) rfl #[.pointer (some ⟨g, 0, none⟩)] (by rfl) rfl rfl (by simp only [List.map_toArray, List.map_cons, List.map_nil]; rfl) ?_
    with_reducible refine (HCALL.out _ HR1.out).mono ?_
    rintro e w2 ⟨rfl, hI, hO⟩
    refine ⟨_, rfl, ?_⟩
    have HI2 := Lib.hid hI
    have HO2 := Lib.hid hO
    have HX2 := Lib.hid (HX1.out.only hO hne)
    clear hI hO HX1 HR1
    refine hK.out _ _ ((HX2.out.cell 1)) (fun hHeld => ?_)
    clear hK K
    refine norm_ (a' := ?_) ?_ ?_
    rotate_left
    · show Act.put _ (some 39) _ = _
      simp only [Act.put, List.setIfInBounds_toArray, List.set_cons_zero, List.set_cons_succ, i64_w, i32_w]
      rfl
    refine pure_ (i := 5) (N := some 43) (v := ?_) (a' := ?_) #[true, true, true, true, true, true, false] rfl rfl (by kernel_rfl) (fun _ _ _ h => h) (Or.inl ⟨by rfl, ?_⟩) ?_ ?_
    rotate_left
    · intro w'
      go_simp
      with_reducible rfl
    rotate_left
    · simp only [Act.put, List.setIfInBounds_toArray, List.set_cons_zero, List.set_cons_succ, i64_w, i32_w]
      rfl
    refine pure_ (i := 6) (N := some 4) (v := ?_) (a' := ?_) #[true, true, true, true, true, true, true] rfl rfl (by kernel_rfl) (fun _ _ _ h => h) (Or.inl ⟨by rfl, ?_⟩) ?_ ?_
    rotate_left
    · intro w'
      go_simp
      with_reducible rfl
    rotate_left
    · simp only [Act.put, List.setIfInBounds_toArray, List.set_cons_zero, List.set_cons_succ, i64_w, i32_w]
      rfl
    refine done_ (by kernel_rfl) ?_
    go_wp2
    go_ret
    exact ⟨rfl, HI2.out, HO1.out.trans HO2.out⟩
end Go.Proofs.Ytengdchgfhcdhaa.Got
