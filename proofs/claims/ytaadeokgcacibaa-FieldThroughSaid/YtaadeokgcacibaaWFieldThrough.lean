/- It is proved here that the law FieldThrough, called with any coefficients, places and turn, answers true and leaves what was there alone. No condition. -/
import Derived.Test.YtaadeokgcacibaaRoom
import Derived.Test.YtaadeokgcacibaaLagT
import Derived.Test.YtaadeokgcacibaaAEv
import Derived.Test.YtaadeokgcacibaaAtZero
namespace Go.Proofs.Ytaadeokgcacibaa.HFieldThrough
set_option linter.unusedVariables false
set_option linter.unusedSimpArgs false
open Go.RowKit Go.Proofs.Ytaadeokgcacibaa.PA Go.Proofs.YtaadeokgcacibaaW.PrintWords Go.Proofs.YtaadeokgcacibaaW.PrintLast Go.Proofs.YtaadeokgcacibaaW.PrintMore Go.Proofs.Ytaadeokgcacibaa.Gf Go.Proofs.Ytaadeokgcacibaa.Gfi Go.Proofs.Ytaadeokgcacibaa.Poly Go.Proofs.Ytaadeokgcacibaa.Lag Go.Proofs.Ytaadeokgcacibaa.AtZero

/-- The anchor answers true. -/
theorem works_calls (w : World) : Calls Try.prog 10 #[] w fun e w' => e = .returned (.bool true) ∧ Below w.heap.size w w' :=
  ciboriumlaw03_works.calls 20 true w (AFn.works_f (by omega))

/-- The places that count: each but 0, once. -/
def step (ps : List B) (x : B) : List B := if x = 0#8 ∨ x ∈ ps then ps else ps ++ [x]
def uniq (pl : List B) : List B := pl.foldl step []
theorem uniq_snoc (pl : List B) (x : B) : uniq (pl ++ [x]) = step (uniq pl) x := by simp [uniq]
theorem step_ok {ps : List B} (h : ok ps) (x : B) : ok (step ps x) := by
  unfold step
  split
  · exact h
  · rename_i hx
    exact (ok_snoc ps x).mpr ⟨h, fun e => hx (.inl e), fun e => hx (.inr e)⟩
theorem uniq_ok (pl : List B) : ok (uniq pl) := by
  have h : ∀ (pl ps : List B), ok ps → ok (pl.foldl step ps) := by
    intro pl
    induction pl with
    | nil => intro ps h; exact h
    | cons x r ih => intro ps h; exact ih _ (step_ok h x)
  exact h pl [] ok_nil

/-- A row of bytes of the call's own. -/
def Row (W : World) (base : Nat) (v : Value) (l : List B) : Prop := W.ownsRow base 5 1 v (ints l).length (encs (Value.int .u8) (ints l))
theorem Row.nil (W : World) (base : Nat) : Row W base (.slice none 0 0) [] := own_nil W base _ _
theorem Row.move {W W' : World} {base : Nat} {v : Value} {l : List B} (h : Row W base v l) (hm : ∀ k, v.ownBlock = some k → W'.heap[k]? = W.heap[k]?) : Row W' base v l := own_move h hm
theorem Row.R {W : World} {base : Nat} {v : Value} {l : List B} (h : Row W base v l) : Kd.R (Kd.int .u8) 5 W base (fun _ => True) v (ints l) := Room.R_of_own h rfl
theorem Row.reads {W : World} {base : Nat} {v : Value} {l : List B} (h : Row W base v l) : ∃ A c, v = .slice A (ints l).length c ∧ (ints l).length ≤ c ∧ Kd.C (Kd.int .u8) W A (ints l).length (ints l) := Kd.R_reads h.R
theorem Row.lt {W : World} {base : Nat} {v : Value} {l : List B} (h : Row W base v l) (k : Nat) (hk : v.ownBlock = some k) : base ≤ k ∧ k < W.heap.size := ⟨own_base h k hk, own_lt h k hk⟩

section
variable {ops : Array Oper} {Q : Exit → Act → World → Prop} {a : Act} {rest : List Oper} {o : Oper} {W : World}
/-- An element is appended to such a row. -/
theorem row_append (base : Nat) (s x : Operand) (v : Value) (l : List B) (b : B) (hgd : o.guard = none) (ho : o.op = .call { callee := .builtin .append, args := #[s, x], argTypes := #[32, 32] })
    (hs : a.eval s = v) {m : Nat} (hx : a.eval x = .slice (some ⟨m, 0, none⟩) 1 1) (hm : m = W.heap.size) (HO : Row W base v l) (hbase : base ≤ W.heap.size) (hl : l.length ≤ 1000000)
    (h : ∀ v1 w1, Row w1 base v1 (l ++ [b]) → Below base W w1 → W.grownBy w1 v.ownBlock → (v1.ownBlock = v.ownBlock ∨ ∃ b, v1.ownBlock = some b ∧ W.heap.size ≤ b) → wpList Try.prog ops Q rest (a.put o.dst v1) w1) :
    wpList Try.prog ops Q (o :: rest) a (W.alloc (.cells #[.int .u8 (ofB b)] 5)) := by
  subst hm
  refine Kd.R_append (Kd.int .u8) (w0 := W) base hgd s x 32 5 (.int .u8 0) 1 ho Try.underlying32 Room.infoB rfl (by decide) (by omega) v (ints l) (ofB b) [.int .u8 (ofB b)] (fun _ => True) (fun _ => False) hs hx rfl (fun _ hk => hk.elim) (fun _ _ => trivial) HO.R (Below.refl _ _) hbase (by rw [ints_length]; omega) ?_
  intro v1 w1 h1 h2 h3 h4
  refine h v1 w1 ?_ h2 h3 h4
  have := Room.own_of_R h1
  have e : ints (l ++ [b]) = ints l ++ [ofB b] := by simp [ints]
  unfold Row
  rw [e]
  exact this
end
theorem ints_snoc (l : List B) (x : B) : ints (l ++ [x]) = ints l ++ [ofB x] := by simp [ints]

/-- What the loop over the places keeps. -/
structure Inv (w wr : World) (cs pl : List B) (v8 v9 : Value) : Prop where
  rx : Row wr (w.heap.size + 1) v8 (uniq pl)
  ry : Row wr (w.heap.size + 1) v9 ((uniq pl).map fun x => ev x cs)
  ne : ∀ k, v8.ownBlock = some k → v9.ownBlock ≠ some k
  seen : Blk.Is wr w.heap.size (seenA (uniq pl)) 38
  below : Below w.heap.size w wr
theorem Inv.size {w wr : World} {cs pl : List B} {v8 v9 : Value} (h : Inv w wr cs pl v8 v9) : w.heap.size + 1 ≤ wr.heap.size := h.seen.lt

set_option maxRecDepth 100000 in
theorem law_far (A0 A1 : Option Addr) (c0 c1 n m : Nat) (a2 : Int) (w : World) (h : 255 < n ∨ 1024 < m) (hn : n ≤ 9223372036854775807) (hm : m ≤ 9223372036854775807) :
    Calls Try.prog 8 #[.slice A0 n c0, .slice A1 m c1, .int .u8 a2] w fun e w' => e = .returned (.bool true) ∧ Below w.heap.size w w' := by
  by_cases h1 : 255 < n
  · go_enter Try.func8, Try.ntmps8
    go_wp2_with fail
    refine (works_calls _).mono ?_
    rintro e w1 ⟨rfl, hb⟩
    go_wp2
    go_ret
    exact ⟨rfl, hb⟩
  · have h2 : 1024 < m := by omega
    clear h
    go_enter Try.func8, Try.ntmps8
    go_wp2_with fail
    refine (works_calls _).mono ?_
    rintro e w1 ⟨rfl, hb⟩
    go_wp2
    go_ret
    exact ⟨rfl, hb⟩

set_option maxRecDepth 100000 in
theorem law_none (A0 A1 : Option Addr) (c0 c1 n : Nat) (a2 : Int) (w : World) (hn : n ≤ 255) :
    Calls Try.prog 8 #[.slice A0 n c0, .slice A1 0 c1, .int .u8 a2] w fun e w' => e = .returned (.bool true) ∧ Below w.heap.size w w' := by
  have hz := zero38
  go_enter Try.func8, Try.ntmps8
  go_wp2
  go_loop [8, 9, 10] (fun v8 v9 v10 => v8 = .slice none 0 0 ∧ v9 = .slice none 0 0 ∧ v10 = .int .i64 0) (fun _ _ _ => 0)
  case atStart => exact ⟨rfl, rfl, rfl⟩
  case round =>
    obtain ⟨rfl, rfl, rfl⟩ := hrel
    go_wp2_with fail
    refine (works_calls _).mono ?_
    rintro e w1 ⟨rfl, hb⟩
    go_wp2
    go_ret
    exact ⟨rfl, below_step ((Below.refl _ _).alloc (Nat.le_refl _) _) hb⟩

set_option maxRecDepth 100000 in
set_option maxHeartbeats 4000000 in
theorem law_some (cs pl : List B) (t : B) (A0 : Option Addr) (ad : Addr) (c0 c1 : Nat) (w : World) (hr0 : Kd.C (Kd.int .u8) w A0 (ints cs).length (ints cs)) (hc0 : (ints cs).length ≤ c0)
    (hp : ∀ k, k < pl.length → w.cell? (ad.add k) = some (.int .u8 (ofB (pl.getD k 0#8)))) (hcs : cs.length ≤ 255) (hpl : pl.length ≤ 1024) :
    Calls Try.prog 8 #[.slice A0 (ints cs).length c0, .slice (some ad) pl.length c1, .int .u8 (ofB t)] w fun e w' => e = .returned (.bool true) ∧ Below w.heap.size w w' := by
  have hz := zero38
  have HR := Lib.hid hr0
  have HP := Lib.hid hp
  have hcl : (ints cs).length ≤ 255 := by rw [ints_length]; exact hcs
  have EV := Lib.hid (fun x => AEv.eval_f cs x (by omega) (k := cs.length + 100) (by omega))
  clear hr0 hp
  obtain ⟨n, Hn⟩ : ∃ n, Hid (n = pl.length) := ⟨_, rfl⟩
  rw [← Hn.out] at hpl ⊢
  go_enter Try.func8, Try.ntmps8
  go_wp2
  go_loopw [8, 9, 10] (fun v8 v9 v10 wr => ∃ i : Nat, i ≤ n ∧ v10 = .int .i64 (i : Int) ∧ Inv w wr cs (pl.take i) v8 v9) (fun _ _ v10 _ => n - (intOf v10).toNat)
  case atStart => exact ⟨0, by omega, rfl, ⟨Row.nil _ _, Row.nil _ _, fun k hk => by simp [Value.ownBlock] at hk, Blk.Is.new _ _ _, (Below.refl _ _).alloc (Nat.le_refl _) _⟩⟩
  case round =>
    obtain ⟨i, hi, rfl, HI⟩ := hrel
    by_cases hlt : i < n
    · have hcell := (HI.below.cell (World.block_lt_of_cell? _ _ (HP.out i (by rw [← Hn.out]; exact hlt)))).trans (HP.out i (by rw [← Hn.out]; exact hlt))
      have hsn := take_snoc pl i (by rw [← Hn.out]; exact hlt)
      have hun := uniq_snoc (pl.take i) (pl.getD i 0#8)
      rw [← hsn] at hun
      generalize pl.getD i 0#8 = x at *
      have Hun := Lib.hid hun
      have hs := (HI.seen.cell x.toNat).trans (seenA_get (uniq (pl.take i)) x)
      have hf := HI.seen.free x.toNat
      have Hse := Lib.hid (seenA_set (uniq (pl.take i)) x)
      have HR := ofB_range x
      have hr1 := HR.1
      have hr2 := HR.2
      have ex : x.toNat = (ofB x).toNat := by simp [ofB]
      rw [ex] at hs hf
      clear hsn hun HR ex
      by_cases hx0 : x = 0#8
      · have hxz : (ofB x == 0) = true := beq_iff_eq.mpr (by rw [hx0]; rfl)
        have he : Hid (uniq (pl.take (i + 1)) = uniq (pl.take i)) := by rw [Hun.out, step, if_pos (.inl hx0)]; rfl
        clear hx0
        go_wp2
        go_roundw
        case rel => exact ⟨i + 1, by omega, by go_num, ⟨by rw [he.out]; exact HI.rx, by rw [he.out]; exact HI.ry, HI.ne, by rw [he.out]; exact HI.seen, HI.below⟩⟩
        case measure => simp [intOf]; omega
      · have hxz : (ofB x == 0) = false := beq_eq_false_iff_ne.mpr (fun h => hx0 (ofB_eq_zero.1 h))
        by_cases hm : x ∈ uniq (pl.take i)
        · rw [decide_eq_true hm] at hs
          have he : Hid (uniq (pl.take (i + 1)) = uniq (pl.take i)) := by rw [Hun.out, step, if_pos (.inr hm)]; rfl
          clear hx0 hm
          go_wp2
          go_roundw
          case rel => exact ⟨i + 1, by omega, by go_num, ⟨by rw [he.out]; exact HI.rx, by rw [he.out]; exact HI.ry, HI.ne, by rw [he.out]; exact HI.seen, HI.below⟩⟩
          case measure => simp [intOf]; omega
        · rw [decide_eq_false hm] at hs
          have he : Hid (uniq (pl.take (i + 1)) = uniq (pl.take i) ++ [x]) := by rw [Hun.out, step, if_neg (fun h => h.elim hx0 hm)]; rfl
          clear hx0 hm
          have hlen : (uniq (pl.take i)).length ≤ 255 := ok_length (uniq_ok _)
          have hrx : Hid (Row (wr.setCell ⟨w.heap.size, (ofB x).toNat, none⟩ (.bool true)) (w.heap.size + 1) u8 (uniq (pl.take i))) := HI.rx.move (fun k hk => Below.heap_setCell _ _ _ _ (by have := HI.rx.lt k hk; simp; omega))
          have hry : Hid (Row (wr.setCell ⟨w.heap.size, (ofB x).toNat, none⟩ (.bool true)) (w.heap.size + 1) u9 ((uniq (pl.take i)).map fun x => ev x cs)) := HI.ry.move (fun k hk => Below.heap_setCell _ _ _ _ (by have := HI.ry.lt k hk; simp; omega))
          have hsz : Hid (w.heap.size + 1 ≤ (wr.setCell ⟨w.heap.size, (ofB x).toNat, none⟩ (.bool true)).heap.size) := by show _ ≤ _; rw [World.size_setCell]; exact HI.size
          go_wp2_with (first | ((with_reducible refine gate_builtin (b := .append) (xs := #[.tmp 45, .tmp 47]) rfl ?_); at_builtin; refine row_append (w.heap.size + 1) (.tmp 45) (.tmp 47) u8 _ x rfl rfl rfl rfl (World.size_setCell _ _ _).symm hrx.out hsz.out (by omega) ?_; intro v1 w1 hx1 hb1 hg1 hat1))
          have hs1 : wr.heap.size ≤ w1.heap.size := by have := hg1.size; rwa [World.size_setCell] at this
          have hB1 : Below w.heap.size w w1 := (HI.below.setCell (p := ⟨w.heap.size, (ofB x).toNat, none⟩) (Nat.le_refl _) _).trans (hb1.mono (by omega))
          have hne1 : ∀ k, v1.ownBlock = some k → u9.ownBlock ≠ some k := by
            intro k hk hk9
            rcases hat1 with e | ⟨b, e, hb⟩
            · exact HI.ne k (e.symm.trans hk) hk9
            · have hk2 := HI.ry.lt k hk9
              rw [e] at hk
              injection hk with hk
              rw [World.size_setCell] at hb
              omega
          have hy1 : Row w1 (w.heap.size + 1) u9 ((uniq (pl.take i)).map fun x => ev x cs) := hry.out.move (fun k hk => hg1.block k (by have := hry.out.lt k hk; omega) (fun e => HI.ne k e.symm hk))
          have hsn1 : Blk.Is w1 w.heap.size (seenA (uniq (pl.take i) ++ [x])) 38 := by
            rw [← Hse.out]
            have h1 := HI.seen.set x.toNat (.bool true)
            rw [show x.toNat = (ofB x).toNat by simp [ofB]] at h1 ⊢
            exact h1.below hb1 (by omega)
          have Hx1 := Lib.hid hx1
          have HB1 := Lib.hid hB1
          have Hne1 := Lib.hid hne1
          have Hy1 := Lib.hid hy1
          have Hsn1 := Lib.hid hsn1
          have hs1' : w.heap.size + 1 ≤ w1.heap.size := by have := HI.size; omega
          have Hs1 := Lib.hid hs1'
          clear hx1 hb1 hg1 hat1 hB1 hne1 hy1 hsn1 hs1 hrx hry hsz hs1'
          refine (field_Eval.calls _ A0 c0 (ints cs) (ofB x) _ _ (Kd.C_below HR.out HB1.out) hc0 (EV.out x)).mono ?_
          rintro e w2 ⟨rfl, ⟨n2, rfl⟩⟩
          go_wp2_with (first | ((with_reducible refine gate_builtin (b := .append) (xs := #[.tmp 49, .tmp 53]) rfl ?_); at_builtin; refine row_append (w.heap.size + 1) (.tmp 49) (.tmp 53) u9 ((uniq (pl.take i)).map fun x => ev x cs) (ev x cs) rfl rfl rfl rfl rfl Hy1.out Hs1.out (by simp; omega) ?_; intro v2 w2 hx2 hb2 hg2 hat2))
          go_roundw
          case rel =>
            refine ⟨i + 1, by omega, by go_num, ⟨?_, ?_, ?_, ?_, ?_⟩⟩
            · rw [he.out]
              exact Hx1.out.move (fun k hk => hg2.block k (Hx1.out.lt k hk).2 (fun e => Hne1.out k hk e.symm))
            · rw [he.out, List.map_append]
              exact hx2
            · intro k hk hk2
              rcases hat2 with e | ⟨b, e, hb⟩
              · exact Hne1.out k hk (e.symm.trans hk2)
              · have := (Hx1.out.lt k hk).2
                rw [e] at hk2
                injection hk2 with hk2
                have hb' : w1.heap.size ≤ b := hb
                omega
            · rw [he.out]
              exact (Hsn1.out.drewN n2).below hb2 (Nat.lt_succ_self _)
            · exact (pw_below_drewN HB1.out n2).trans (hb2.mono (Nat.le_succ w.heap.size))
          case measure => simp [intOf]; omega
    · obtain rfl : n = i := by omega
      clear hlt hi hz
      have hIr : Inv w wr cs pl u8 u9 := by
        have h := HI
        rw [Hn.out, List.take_length] at h
        exact h
      have hok := uniq_ok pl
      have hrow := hIr.ry
      have hrow8 := hIr.rx
      have hne := hIr.ne
      have HB := Lib.hid hIr.below
      have hsz := hIr.size
      clear HI hIr HP
      generalize uniq pl = ps at *
      have hpl5 := ok_length hok
      obtain ⟨Ax, cx, hvx, hcx, hrx⟩ := hrow8.reads
      obtain ⟨Ay, cy, hvy, hcy, hry⟩ := hrow.reads
      subst hvx
      subst hvy
      have hNx : (ints ps).length = ps.length := ints_length ps
      have hNy : (ints (ps.map fun x => ev x cs)).length = ps.length := by rw [ints_length, List.length_map]
      have hNc : (ints cs).length = cs.length := ints_length cs
      have Hx := Lib.hid hrx
      have Hy := Lib.hid hry
      have R8 := Lib.hid hrow8
      have R9 := Lib.hid hrow
      have HK := Lib.hid hok
      have HN := Lib.hid hne
      clear hrx hry hrow hrow8 hok hne
      by_cases h0 : ps.length = 0
      · have c0 : (((ints ps).length : Int) == 0) = true := beq_iff_eq.mpr (by omega)
        have c1 : (ints ps) = [] := List.eq_nil_of_length_eq_zero (by omega)
        go_wp2_with fail
        refine (works_calls _).mono ?_
        rintro e w1 ⟨rfl, hb⟩
        go_wp2
        go_ret
        exact ⟨rfl, below_step HB.out hb⟩
      · have c0 : (((ints ps).length : Int) == 0) = false := beq_eq_false_iff_ne.mpr (by omega)
        by_cases h1 : ps.length < cs.length
        · have c1 : decide ((ints ps).length < (ints cs).length) = true := decide_eq_true (by omega)
          go_wp2_with fail
          refine (works_calls _).mono ?_
          rintro e w1 ⟨rfl, hb⟩
          go_wp2
          go_ret
          exact ⟨rfl, below_step HB.out hb⟩
        · have c1 : decide ((ints ps).length < (ints cs).length) = false := decide_eq_false (by omega)
          have hth := LagT.through ps cs (ps.map fun x => ev x cs) HK.out (by omega) (fun i hi => by
            rw [List.getD_eq_getElem?_getD, List.getElem?_map, List.getElem?_eq_getElem hi, List.getD_eq_getElem?_getD, List.getElem?_eq_getElem hi]
            rfl)
          have hres : res ps (ps.map fun x => ev x cs) = (ofB (cs.getD 0 0#8), 0) := by
            rw [res, if_neg (by rintro (e | e | e); exact h0 e; exact e (by simp); exact e HK.out), hth]
          have AZ := Lib.hid (AtZero.calls ps (ps.map fun x => ev x cs) Ax Ay cx cy wr Hx.out Hy.out (by omega) (by simp; omega))
          have HRES := Lib.hid hres
          clear hth hres
          have hg : ∃ g, Ay = some ⟨g, 0, none⟩ := by
            rcases R9.out.2 with ⟨_, h⟩ | ⟨g, cap, cur, e, _⟩
            · omega
            · injection e with e
              exact ⟨g, e⟩
          obtain ⟨g, rfl⟩ := hg
          obtain ⟨l, hl⟩ : ∃ l, l = ps.map fun x => ev x cs := ⟨_, rfl⟩
          rw [← hl] at R9 HN AZ HRES hNy ⊢
          have hll : l.length = ps.length := by rw [hl]; simp
          clear hl Hy
          have hPos : 0 < (ints l).length := by omega
          have TAIL : ∀ (w1 : World), Below wr.heap.size wr w1 → ∀ n2 : Nat, t ≠ 0#8 →
              (w1.cell? ⟨g, 0, none⟩ = some (.int .u8 (ofB (l.getD 0 0#8))) ∧ w1.frozen? ⟨g, 0, none⟩ = false) ∧
              Below w.heap.size w (((w1.drewN n2).setCell ⟨g, 0, none⟩ (.int .u8 (ofB (l.getD 0 0#8 ^^^ t))))) ∧
              ∃ z : Int, (z == ofB (cs.getD 0 0#8)) = false ∧ Calls Try.prog 23 #[.slice Ax (ints ps).length cx, .slice (some ⟨g, 0, none⟩) (ints l).length cy] ((w1.drewN n2).setCell ⟨g, 0, none⟩ (.int .u8 (ofB (l.getD 0 0#8 ^^^ t)))) fun e w' => e = .returned (.tuple #[.int .u8 z, .int .i64 0]) ∧ Below ((w1.drewN n2).setCell ⟨g, 0, none⟩ (.int .u8 (ofB (l.getD 0 0#8 ^^^ t)))).heap.size ((w1.drewN n2).setCell ⟨g, 0, none⟩ (.int .u8 (ofB (l.getD 0 0#8 ^^^ t)))) w' := by
            intro w1 hb1 n2 ht
            have r9 : Row w1 (w.heap.size + 1) (.slice (some ⟨g, 0, none⟩) (ints l).length cy) l := R9.out.move (fun k hk => hb1.block k (R9.out.lt k hk).2)
            have hyc := own_at_of (d := (0 : Int)) r9 0 (by omega) (by omega)
            have e0 : rdOf (0 : Int) (ints l) 0 = ofB (l.getD 0 0#8) := ints_getD l 0
            rw [e0] at hyc
            have hgw : w.heap.size + 1 ≤ g := (R9.out.lt g rfl).1
            have r9' : Row (w1.drewN n2) (w.heap.size + 1) (.slice (some ⟨g, 0, none⟩) (ints l).length cy) l := r9
            have hys := (own_store_of r9' 0 (ofB (l.getD 0 0#8 ^^^ t))).1
            have hB3 : Below w.heap.size w ((w1.drewN n2).setCell ⟨g, 0, none⟩ (.int .u8 (ofB (l.getD 0 0#8 ^^^ t)))) := (pw_below_drewN (below_step HB.out hb1) n2).setCell (p := ⟨g, 0, none⟩) (by show w.heap.size ≤ g; omega) _
            refine ⟨hyc, hB3, ?_⟩
            have r8 : Row ((w1.drewN n2).setCell ⟨g, 0, none⟩ (.int .u8 (ofB (l.getD 0 0#8 ^^^ t)))) (w.heap.size + 1) (.slice Ax (ints ps).length cx) ps := R8.out.move (fun k hk => by
              have hkg : k ≠ g := fun e => HN.out k hk (by rw [e]; rfl)
              rw [Below.heap_setCell _ _ _ _ hkg]
              exact hb1.block k (R8.out.lt k hk).2)
            have es : (ints l).set (Int.toNat 0) (ofB (l.getD 0 0#8 ^^^ t)) = ints (l.set 0 (l.getD 0 0#8 ^^^ t)) := by
              rw [ints, ints, List.map_set]
              rfl
            rw [es] at hys
            have hr8 := (Kd.R_reads' r8.R).2.2
            have hR9 := Room.R_of_own hys (by rw [ints_length, ints_length, List.length_set])
            have hr9 := (Kd.R_reads' hR9).2.2
            have az := AtZero.calls_n ps (l.set 0 (l.getD 0 0#8 ^^^ t)) Ax (some ⟨g, 0, none⟩) (ints ps).length (ints l).length cx cy _ rfl (by rw [ints_length, ints_length, List.length_set]) hr8 (by rw [show (ints l).length = (ints (l.set 0 (l.getD 0 0#8 ^^^ t))).length by rw [ints_length, ints_length, List.length_set]]; exact hr9) (by omega) (by rw [List.length_set]; omega)
            have hres : res ps (l.set 0 (l.getD 0 0#8 ^^^ t)) = (ofB (atZero ps (l.set 0 (l.getD 0 0#8 ^^^ t))), 0) := by
              rw [res, if_neg (by rintro (e | e | e); exact h0 e; exact e (by rw [List.length_set]; omega); exact e HK.out)]
            have h3 := HRES.out
            rw [res, if_neg (by rintro (e | e | e); exact h0 e; exact e (by omega); exact e HK.out)] at h3
            have h4 : ofB (atZero ps l) = ofB (cs.getD 0 0#8) := congrArg Prod.fst h3
            rw [hres] at az
            refine ⟨_, ?_, az⟩
            rw [beq_eq_false_iff_ne, ← h4]
            exact fun e => LagT.turned ps l t HK.out (by omega) (by omega) ht (ofB_inj e)
          have HT := Lib.hid TAIL
          clear TAIL
          rw [HRES.out] at AZ
          have hAdd := Lib.hid (fun w => field_Add.calls (ofB (l.getD 0 0#8)) (ofB t) _ w (AFn.add_f (l.getD 0 0#8) t))
          have HNx := Lib.hid hNx
          have HNy := Lib.hid hNy
          have HNc := Lib.hid hNc
          have Hll := Lib.hid hll
          by_cases hc : cs.length = 0
          · have hV : ofB (cs.getD 0 0#8) = 0 := by rw [List.eq_nil_of_length_eq_zero hc]; rfl
            rw [hV] at AZ HT
            have hcz : decide (0 < (ints cs).length) = false := decide_eq_false (by omega)
            have Hc := Lib.hid hc
            clear hV HRES hNx hNy hNc hll hc
            go_wp2_with fail
            refine AZ.out.mono ?_
            rintro e w1 ⟨rfl, hb1⟩
            by_cases ht : t = 0#8
            · have htz : (ofB t == 0) = true := beq_iff_eq.mpr (by rw [ht]; rfl)
              go_wp2_with fail
              refine (works_calls _).mono ?_
              rintro e w2 ⟨rfl, hb⟩
              go_wp2
              go_ret
              exact ⟨rfl, below_step (below_step HB.out hb1) hb⟩
            · have htz : (ofB t == 0) = false := beq_eq_false_iff_ne.mpr (fun h => ht (ofB_eq_zero.1 h))
              obtain ⟨hyc, hyf⟩ := (HT.out w1 hb1 0 ht).1
              go_wp2_with fail
              refine (hAdd.out _).mono ?_
              rintro e w2 ⟨rfl, ⟨n2, rfl⟩⟩
              obtain ⟨_, hB2, z, hz, hcall⟩ := HT.out w1 hb1 n2 ht
              have hz2 : (z != 0) = true := by rw [bne, hz]; rfl
              have HC := Lib.hid hcall
              clear hcall
              go_wp2_with fail
              refine HC.out.mono ?_
              rintro e w3 ⟨rfl, hb3⟩
              go_wp2_with fail
              refine (works_calls _).mono ?_
              rintro e w4 ⟨rfl, hb4⟩
              go_wp2
              go_ret
              exact ⟨rfl, below_step (below_step hB2 hb3) hb4⟩
          · have hcz : decide (0 < (ints cs).length) = true := decide_eq_true (by omega)
            obtain ⟨adc, rfl, hcc⟩ := reads_at (Kd.C_below HR.out HB.out) (by omega)
            have hcp : 0 < (ints cs).length := by omega
            have hcell := hcc 0 (by omega)
            have hcell2 := hcell
            rw [show adc.add 0 = adc by cases adc; simp [Addr.add]] at hcell2
            generalize ofB (cs.getD 0 0#8) = V at *
            clear hcc HRES hNx hNy hNc hll
            go_wp2_with fail
            refine AZ.out.mono ?_
            rintro e w1 ⟨rfl, hb1⟩
            by_cases ht : t = 0#8
            · have htz : (ofB t == 0) = true := beq_iff_eq.mpr (by rw [ht]; rfl)
              go_wp2_with fail
              refine (works_calls _).mono ?_
              rintro e w2 ⟨rfl, hb⟩
              go_wp2
              go_ret
              exact ⟨rfl, below_step (below_step HB.out hb1) hb⟩
            · have htz : (ofB t == 0) = false := beq_eq_false_iff_ne.mpr (fun h => ht (ofB_eq_zero.1 h))
              obtain ⟨hyc, hyf⟩ := (HT.out w1 hb1 0 ht).1
              go_wp2_with fail
              refine (hAdd.out _).mono ?_
              rintro e w2 ⟨rfl, ⟨n2, rfl⟩⟩
              obtain ⟨_, hB2, z, hz, hcall⟩ := HT.out w1 hb1 n2 ht
              have hz2 : (z != V) = true := by rw [bne, hz]; rfl
              have HC := Lib.hid hcall
              clear hcall
              go_wp2_with fail
              refine HC.out.mono ?_
              rintro e w3 ⟨rfl, hb3⟩
              go_wp2_with fail
              refine (works_calls _).mono ?_
              rintro e w4 ⟨rfl, hb4⟩
              go_wp2
              go_ret
              exact ⟨rfl, below_step (below_step hB2 hb3) hb4⟩

theorem law (A0 : Option Addr) (c0 : Nat) (l0 : List Int) (A1 : Option Addr) (c1 : Nat) (l1 : List Int) (a2 : Int) (w : World) (hr0 : Kd.C (Kd.int .u8) w A0 l0.length l0) (hc0 : l0.length ≤ c0) (hm0 : l0.length ≤ maxLen) (y0 : l0.length * 1 ≤ 140737488351232) (hw0 : ∀ x ∈ l0, (Lit.int .u8 x).wf = true)
    (hr1 : Kd.C (Kd.int .u8) w A1 l1.length l1) (hc1 : l1.length ≤ c1) (hm1 : l1.length ≤ maxLen) (y1 : l1.length * 1 ≤ 140737488351232) (hw1 : ∀ x ∈ l1, (Lit.int .u8 x).wf = true) (w2 : (Lit.int .u8 a2).wf = true) :
    Calls Try.prog 8 #[.slice A0 l0.length c0, .slice A1 l1.length c1, .int .u8 a2] w fun e w' => e = .returned (.bool true) ∧ Below w.heap.size w w' := by
  by_cases hl : 255 < l0.length ∨ 1024 < l1.length
  · exact law_far A0 A1 c0 c1 l0.length l1.length a2 w hl (by omega) (by omega)
  · obtain ⟨cs, rfl⟩ := exists_ints l0 hw0
    obtain ⟨pl, rfl⟩ := exists_ints l1 hw1
    obtain ⟨t, rfl⟩ := B_of_wf w2
    have hcs : cs.length ≤ 255 := by rw [ints_length] at hl; omega
    by_cases h0 : pl.length = 0
    · rw [show (ints pl).length = 0 by rw [ints_length, h0]]
      exact law_none A0 A1 c0 c1 (ints cs).length (ofB t) w (by rw [ints_length]; exact hcs)
    · obtain ⟨ad, rfl, hp⟩ := reads_at hr1 (by omega)
      rw [ints_length pl]
      exact law_some cs pl t A0 ad c0 c1 w hr0 hc0 hp hcs (by rw [ints_length, ints_length] at hl; omega)
end Go.Proofs.Ytaadeokgcacibaa.HFieldThrough
