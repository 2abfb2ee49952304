/- What is said here: field.logs answers the two tables of the powers of 3, and leaves what was there alone. -/
import Derived.RangeFuncNested
import Derived.RangeFuncBound
import Derived.RangeFuncCalls
import Derived.RangeFuncLeaves
import Derived.Shelf.Abstract
import Derived.Shelf.RegionOpen
import Derived.WalkKit
import Derived.OwnWalkIn
import Derived.TacticsInMore
import Derived.LoopNIn
import Derived.LoopIn
import Derived.Test.YtbebmbcjddibaaaProg
import Derived.Test.YtbebmbcjddibaaaBlk
import Derived.Test.YtbebmbcjddibaaaPoly
import Derived.Outline
import Derived.Lib.Hide
namespace Go.Proofs.Ytbebmbcjddibaaa.Logs
set_option linter.unusedVariables false
set_option linter.unusedSimpArgs false
open Go.Proofs.Ytbebmbcjddibaaa.Tab
open Go.RowKit Go.Shelf
attribute [local go_sem] Oper.semAt_some

set_option maxRecDepth 100000 in
set_option maxHeartbeats 2000000 in
theorem powers_stops (F : Fence) (n : Nat) (h : F.fn 57) (hro : F.round = none) (hn : 1 ≤ n) (w : World) :
    SeqStopsA F n Try.prog 57 #[] encs (fun xs => xs = upto 255) (fun _ => True) 255 w := fun l J Jx W _ _ _ hY h0 => by
  refine callsIn_of_wp Try.func57 rfl h ?_ hro
  simp only [Try.ntmps57, List.size_toArray, List.length_cons, List.length_nil, Nat.reduceAdd, Nat.reduceSub, Array.replicate_succ, Array.replicate_zero, List.push_toArray, List.append_toArray, List.nil_append, List.cons_append]
  gi_wp2
  gi_loopw [2, 4] (fun x i wr => ∃ k : Nat, k ≤ 255 ∧ x = .int .u8 (pw k) ∧ i = .int .i64 (k : Int) ∧ J (upto k) wr) (fun _ i _ => 255 - (intOf i).toNat)
  case atStart => exact ⟨0, by omega, rfl, rfl, h0⟩
  case round =>
    obtain ⟨k, hk, rfl, rfl, hJ⟩ := hrel
    by_cases hlt : k < 255
    · obtain ⟨fn, tmps, assign, body, hy, hR⟩ := hY (upto k) ⟨k, hlt⟩ wr hJ (by rw [upto_len k hk]; exact hlt)
      have hb := pw_range ⟨k, hlt⟩
      have hb1 := hb.1
      have hb2 := hb.2
      dsimp only [encs] at hy hb1 hb2
      clear hb
      gi_wp2
      refine hR.mono ?_
      rintro e W3 (⟨rfl, hJ3, _⟩ | ⟨rfl, hJx3⟩)
      · gi_wp2
        go_roundw
        case rel => exact ⟨k + 1, by omega, rfl, by go_num, by rw [upto_succ k hlt]; exact hJ3⟩
        case measure => simp [intOf]; omega
      · gi_wp2
        refine bodyPost_ret (results_none rfl _ _ _) rfl ?_
        exact ⟨⟨_, rfl⟩, .inr ⟨_, trivial, hJx3⟩⟩
    · obtain rfl : k = 255 := by omega
      gi_wp2
      go_end0
      exact ⟨⟨_, rfl⟩, .inl ⟨_, rfl, hJ⟩⟩

theorem zero40 (w : World) : (zeroValue 89).run Try.prog w = .ok (.agg zlog) w := by kernel_rfl
theorem zero41 (w : World) : (zeroValue 90).run Try.prog w = .ok (.agg zexp) w := by kernel_rfl

set_option maxHeartbeats 400000 in
theorem powers_in (F : Fence) (n : Nat) (h : F.fn 56) (hro : F.round = none) (w : World) :
    CallsIn F n Try.prog 56 #[] w fun e w' => e = .returned (.func (.func 57) #[] #[]) ∧ w = w' := by
  refine callsIn_of_wp Try.func56 rfl h ?_ hro
  simp only [Try.ntmps56, List.size_toArray, List.length_cons, List.length_nil, Nat.reduceAdd, Nat.reduceSub, Array.replicate_succ, Array.replicate_zero, List.push_toArray, List.append_toArray, List.nil_append, List.cons_append]
  gi_wp2
  go_ret
  exact ⟨rfl, rfl⟩

theorem Is.kept {W W' : World} {b : Nat} {cs : Array Value} {T : TypeId} {row : Option Nat} (h : Blk.Is W b cs T) (hg : W.grownBy W' row) (hr : ∀ r, row = some r → ∃ o : Obj, W.heap[r]? = some o ∧ o.isCells = false) : Blk.Is W' b cs T := by
  refine (hg.block b h.lt ?_).trans h
  rintro rfl
  obtain ⟨o, ho, hc⟩ := hr b rfl
  have h2 : W.heap[b]? = some (.cells cs T (0, 0)) := h
  rw [h2] at ho
  cases ho
  simp [Obj.isCells] at hc

theorem ld40 (x : Value) : Instr.loadAt 89 x = Blk.ld 89 x := rfl
theorem ld41 (x : Value) : Instr.loadAt 90 x = Blk.ld 90 x := rfl
theorem st40 (x v : Value) : Instr.storeAt 89 x v = Blk.st 89 x v := rfl
theorem st41 (x v : Value) : Instr.storeAt 90 x v = Blk.st 90 x v := rfl
attribute [local go_sem ↓] ld40 ld41 st40 st41

set_option maxRecDepth 100000 in
set_option maxHeartbeats 2000000 in
theorem logs_in (F : Fence) (n : Nat) (h25 : F.fn 55) (h28 : F.fn 56) (h29 : F.fn 57) (hro : F.round = none) (hn : 3 ≤ n) (w : World) :
    CallsIn F n Try.prog 55 #[] w fun e w' => e = .returned (.tuple #[.agg (logA (upto 255)), .agg (expA (upto 255))]) ∧ Below w.heap.size w w' := by
  have h1 : 1 ≤ n := by omega
  have h1' : 1 ≤ n - 1 := by omega
  have hz0 := zero40
  have hz1 := zero41
  refine callsIn_of_wp_marks Try.func55 rfl h25 ?_ hro
  simp only [Try.ntmps55, List.size_toArray, List.length_nil, Nat.reduceSub, Array.replicate_succ, Array.replicate_zero, List.push_toArray, List.append_toArray, List.nil_append, List.cons_append]
  gi_wp2_with (gi_at_call 56; refine (powers_in F (n - 1) h28 hro _).mono ?_; rintro e w' ⟨rfl, rfl⟩)
  have hb0 : Blk.Is ((w.alloc (.cells zlog 89)).alloc (.cells zexp 90)) w.heap.size zlog 89 := (Blk.Is.new w zlog _).alloc _
  have hb1 : Blk.Is ((w.alloc (.cells zlog 89)).alloc (.cells zexp 90)) (w.heap.size + 1) zexp 90 := by
    have := Blk.Is.new (w.alloc (.cells zlog 89)) zexp 90
    rwa [World.size_alloc] at this
  have hB0 : Below w.heap.size w ((w.alloc (.cells zlog 89)).alloc (.cells zexp 90)) := ((Below.refl _ w).alloc (Nat.le_refl _) _).alloc (by simp) _
  refine wpIn_rangeFunc_ownF hro h1 (gf := 57) (lb := #[]) rfl h29 (enters_of Try.func57 (by kernel_rfl) rfl)
    (seqStopsA_iff.1 (powers_stops F (n - 1) h29 hro (by omega) _)) (fun h k => h.trans k) (fun W l o o' _ hl _ hw => KeepsWalks.putObj _ hl hw) (Below.refl _ _) (fun _ => rfl)
    (fun pre W => (Blk.Is W w.heap.size (logA pre) 89 ∧ Blk.Is W (w.heap.size + 1) (expA pre) 90) ∧ Below w.heap.size w W)
    (fun _ _ _ => False)
    (OwnFrom.and (Own.from (fun s A B row hs hg hr => ⟨Is.kept hs.1 hg hr, Is.kept hs.2 hg hr⟩) _) (ownFrom_below (Nat.le_refl _) (by simp; omega)))
    (fun _ _ _ _ _ hs _ _ => hs)
    ⟨⟨hb0, hb1⟩, hB0⟩
    (fun x => { tmps := #[.pointer (some ⟨w.heap.size, 0, none⟩), .pointer (some ⟨w.heap.size + 1, 0, none⟩), .int .i64 (x.1 : Int), .int .u8 (pw x.1), .func (.func 57) #[] #[], .int .i64 (x.1 : Int), .int .u8 (pw x.1), undef, undef, undef, undef, undef, undef, undef, undef], defers := [] }) ?assign ?body ?done ?stop
  case assign =>
    intro l x W K hK
    gi_wp2
    exact hK
  case body =>
    rintro l pre x W ⟨⟨hl, he⟩, hB⟩ _
    have hp := pw_range x
    have hp1 := hp.1
    have hp2 := hp.2
    have hx := x.2
    clear hp
    have hlt : (pw x.1).toNat < 256 := by omega
    obtain ⟨u, hu⟩ : ∃ u, W.cell? ⟨w.heap.size, (pw x.1).toNat, none⟩ = some u := by
      rw [hl.cell]
      exact ⟨_, Array.getElem?_eq_getElem (by rw [logA_size]; exact hlt)⟩
    have hfu := hl.free (pw x.1).toNat
    obtain ⟨v, hv⟩ : ∃ v, W.cell? ⟨w.heap.size + 1, x.1, none⟩ = some v := by
      rw [he.cell]
      exact ⟨_, Array.getElem?_eq_getElem (by rw [expA_size]; exact hx)⟩
    have hfv := he.free x.1
    gi_wp2
    refine ⟨(KeepsOthers.setCell _ _ _).trans (KeepsOthers.setCell _ _ _), ?_, ⟨?_, ?_⟩, ?_⟩
    · exact ((KeepsOthers.setCell _ _ _).trans (KeepsOthers.setCell _ _ _)).walks
    · rw [logA_snoc]; exact (hl.set _ _).other (by simp) _
    · rw [expA_snoc]; exact (he.other (by simp) _).set _ _
    · exact (hB.setCell (by simp) _).setCell (by simp) _
  case done =>
    rintro D ys W hD rfl ⟨⟨hl, he⟩, hB⟩ hK
    obtain ⟨LOG, hLOG⟩ : ∃ L, L = logA (upto 255) := ⟨_, rfl⟩
    obtain ⟨EXP, hEXP⟩ : ∃ L, L = expA (upto 255) := ⟨_, rfl⟩
    have s0 : LOG.size = 256 := by rw [hLOG]; exact logA_size _
    have s1 : EXP.size = 255 := by rw [hEXP]; exact expA_size _
    have o0 : LOG.all (·.oneCell') = true := by rw [hLOG]; exact logA_one
    have o1 : EXP.all (·.oneCell') = true := by rw [hEXP]; exact expA_one
    rw [← hLOG] at hl
    rw [← hEXP] at he
    have HLOG := Lib.hid hLOG
    have HEXP := Lib.hid hEXP
    clear hLOG hEXP
    have ll := Blk.load_row hl.drew (P := Try.prog) (t := 89) Try.underlying89 rfl (by rw [s0]; kernel_rfl)
    have le := Blk.load_row he.drew (P := Try.prog) (t := 90) Try.underlying90 rfl (by rw [s1]; kernel_rfl)
    have sl := Blk.store_same hl.drew (P := Try.prog) (t := 89) (by rw [s0]; kernel_rfl) o0
    have se := Blk.store_same he.drew (P := Try.prog) (t := 90) (by rw [s1]; kernel_rfl) o1
    have Hs0 := Lib.hid s0
    have Hs1 := Lib.hid s1
    clear s0 s1 o0 o1
    have Hd := Lib.hid hD
    clear hD hb0 hb1 hB0 hz0 hz1
    gi_wp2
    gi_region
    all_goals
      gi_wp2
      refine ⟨by simp, .inl ⟨_, _, rfl, run_takeDeferred hK, ?_⟩⟩
      have hg := grownBy_putObj' W.drew D (.deferred none)
      refine ⟨_, Blk.results2 (P := Try.prog) rfl _ (cs := LOG) (cs' := EXP) rfl rfl (Is.kept hl.drew hg (fun r e => by cases e; exact ⟨_, hK, rfl⟩)) (Is.kept he.drew hg (fun r e => by cases e; exact ⟨_, hK, rfl⟩)) Try.underlying89 rfl (by rw [Hs0.out]; kernel_rfl) Try.underlying90 rfl (by rw [Hs1.out]; kernel_rfl), by rw [HLOG.out, HEXP.out], hB.drew.trans (belowK_b (w := w) (Nat.le_refl _) W.drew D _ _ (by have := Hd.out; simp at this; omega) hK rfl rfl)⟩
  case stop =>
    rintro D c pre W _ _ h _
    exact h.elim

/-- The two tables, of any call. -/
theorem logs_calls (w : World) : Calls Try.prog 55 #[] w fun e w' => e = .returned (.tuple #[.agg LT, .agg ET]) ∧ Below w.heap.size w w' := by
  refine (callsIn_wide (n := 3)).1 ?_
  rw [LT_eq, ET_eq]
  exact logs_in _ _ trivial trivial trivial rfl (by omega) w
end Go.Proofs.Ytbebmbcjddibaaa.Logs
