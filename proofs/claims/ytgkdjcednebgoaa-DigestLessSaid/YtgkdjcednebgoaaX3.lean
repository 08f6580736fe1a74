/- Walk: the schedule of a block. -/
import Derived.Test.YtgkdjcednebgoaaX2
namespace Go.Proofs.Ytgkdjcednebgoaa
open Go.RowKit Go.Lib

def s0 (x : Nat) : Nat := xor32 (xor32 (rot32 x 7) (rot32 x 18)) (shr32 x 3)
def s1 (y : Nat) : Nat := xor32 (xor32 (rot32 y 17) (rot32 y 19)) (shr32 y 10)
def byteN (b : List UInt8) (i : Nat) : Nat := (b.getD i 0).toNat
def wordAt (b : List UInt8) (i : Nat) : Nat := word32 (byteN b (4 * i)) (byteN b (4 * i + 1)) (byteN b (4 * i + 2)) (byteN b (4 * i + 3))
def nextW (p : List Nat) (i : Nat) : Nat := add32 (add32 (add32 (p.getD (i - 16) 0) (s0 (p.getD (i - 15) 0))) (p.getD (i - 7) 0)) (s1 (p.getD (i - 2) 0))
def sched (b : List UInt8) : Nat → List Nat
  | 0 => []
  | i + 1 => sched b i ++ [if i < 16 then wordAt b i else nextW (sched b i) i]

theorem sched_length (b : List UInt8) : ∀ i, (sched b i).length = i
  | 0 => rfl
  | i + 1 => by simp [sched, sched_length b i]

/-- A row of n words, its head known. -/
def rowU (l : List Nat) (n : Nat) : Array Value := (u32Cells (l ++ List.replicate (n - l.length) 0)).toArray

theorem rowU_size (l : List Nat) (n : Nat) (h : l.length ≤ n) : (rowU l n).size = n := by
  simp [rowU, u32Cells]; omega

theorem rowU_get (l : List Nat) (n j : Nat) (h : j < l.length) (_hn : l.length ≤ n) : (rowU l n)[j]? = some (.int .u32 ((l.getD j 0 : Nat) : Int)) := by
  rw [rowU, u32Cells_get _ _ (by simp; omega)]
  simp [List.getD, List.getElem?_append_left h]

theorem rowU_set (l : List Nat) (n x : Nat) (h : l.length < n) : (rowU l n).setIfInBounds l.length (.int .u32 (x : Int)) = rowU (l ++ [x]) n := by
  apply Array.ext'
  rw [Array.toList_setIfInBounds]
  obtain ⟨m, hm⟩ : ∃ m, n - l.length = m + 1 := ⟨n - l.length - 1, by omega⟩
  have hm2 : n - (l.length + 1) = m := by omega
  simp only [rowU, List.length_append, List.length_cons, List.length_nil, Nat.zero_add, hm, hm2, u32Cells, List.toList_toArray]
  rw [← List.map_set (f := fun (n : Nat) => Value.int .u32 (n : Int)) (a := x), List.set_append_right _ _ (Nat.le_refl _)]
  simp [List.replicate_succ]

theorem rowU_full (l : List Nat) (n : Nat) (h : l.length = n) : rowU l n = (u32Cells l).toArray := by
  simp [rowU, h]

/-- Bytes that a world holds from an address on. -/
def Bs (w : World) (g off : Nat) (b : List UInt8) : Prop := ∀ j, j < b.length → w.cell? ⟨g, off + j, none⟩ = some (.int .u8 (byteN b j : Int))

theorem Bs.kp {F : Nat → Prop} {w w' : World} {g off : Nat} {b : List UInt8} (h : Bs w g off b) (hk : Kp F w w') (hF : ¬ F g) : Bs w' g off b :=
  fun j hj => hk.cell (h j hj) hF

theorem byteN_lt (b : List UInt8) (i : Nat) : byteN b i < 256 := UInt8.toNat_lt _

def SRel (w : World) (b : List UInt8) (i : Value) (wr : World) : Prop :=
  ∃ k : Nat, i = .int .i64 (k : Nat) ∧ k ≤ 64 ∧ wr.heap[w.heap.size + 1]? = some (.cells (rowU (sched b k) 64) 58 (0, 0)) ∧ (∃ z, wr.heap[w.heap.size]? = some (.cells z 58 (0, 0)) ∧ z.size = 64) ∧ Kp (fun _ => False) w wr

theorem srel_step {w wr : World} {b : List UInt8} {k x : Nat} {z : Array Value} (hrow : wr.heap[w.heap.size + 1]? = some (.cells (rowU (sched b k) 64) 58 (0, 0))) (hz : wr.heap[w.heap.size]? = some (.cells z 58 (0, 0))) (hzs : z.size = 64)
    (hkp : Kp (fun _ => False) w wr) (hk : k < 64) (hx : sched b (k + 1) = sched b k ++ [x]) : SRel w b (.int .i64 ((k : Int) + 1)) (wr.setCell ⟨w.heap.size + 1, k, none⟩ (.int .u32 (x : Int))) := by
  have hl := sched_length b k
  refine ⟨k + 1, by simp, by omega, ?_, ⟨z, ?_, hzs⟩, hkp.trans (Kp.setCell (F := fun j => j = w.heap.size + 1) wr (a := ⟨w.heap.size + 1, k, none⟩) _ rfl) fun j hj => .inr (by omega)⟩
  · rw [heap_setCell_same wr _ k _ 58 _ hrow, hx]
    have := rowU_set (sched b k) 64 x (by omega)
    rw [hl] at this
    rw [this]
  · rw [heap_setCell_other _ _ _ _ (by simp)]
    exact hz

set_option maxRecDepth 100000 in
set_option maxHeartbeats 1000000 in
theorem schedule_any (w : World) (g off cap : Nat) (b : List UInt8) (hb : b.length = 64) (hc : 64 ≤ cap) (hcm : cap ≤ 9223372036854775807) (h : Bs w g off b) :
    Calls Try.prog 29 #[.slice (some ⟨g, off, none⟩) 64 cap] w fun e w' => e = .returned (.agg (u32Cells (sched b 64)).toArray) ∧ Kp (fun _ => False) w w' := by
  have H := Lib.hid h
  clear h
  go_enter Try.func29, Try.ntmps29
  go_wp2_with fail
  go_loopw [9] (fun i wr => SRel w b i wr) (fun i _ => 64 - (intOf i).toNat)
  case atStart =>
    refine ⟨0, rfl, by omega, ?_, ⟨_, heap_alloc2_old w _ _, rfl⟩, (Kp.alloc _ w _).trans (Kp.alloc (fun _ => False) _ _) fun _ h => h.elim⟩
    rw [heap_alloc2_new]
    rfl
  case round =>
    obtain ⟨k, rfl, hk, hrow, ⟨z, hz, hzs⟩, hkp⟩ := hrel
    have HR := Lib.hid hrow
    have HZ := Lib.hid hz
    have HZS := Lib.hid hzs
    have HK := Lib.hid hkp
    clear hrow hz hzs hkp
    by_cases h1 : k < 64
    · by_cases h2 : k < 16
      · have hB := H.out.kp HK.out (fun h => h)
        have e0 := hB (4 * k) (by omega)
        have e1 := hB (4 * k + 1) (by omega)
        have e2 := hB (4 * k + 2) (by omega)
        have e3 := hB (4 * k + 3) (by omega)
        rw [← Nat.add_assoc] at e1 e2 e3
        have E0 := Lib.hid e0
        have E1 := Lib.hid e1
        have E2 := Lib.hid e2
        have E3 := Lib.hid e3
        clear hB e0 e1 e2 e3
        have hlen := sched_length b k
        have hcell : ∃ v, wr.cell? ⟨w.heap.size + 1, k, none⟩ = some v := by
          rw [cell_of_row _ _ _ _ _ _ HR.out]
          exact ⟨(rowU (sched b k) 64)[k]'(by rw [rowU_size _ _ (by omega)]; exact h1), by simp [rowU_size _ 64 (show (sched b k).length ≤ 64 by omega), h1]⟩
        obtain ⟨v0, hc0⟩ := hcell
        have hf0 := frozen_of_row wr (w.heap.size + 1) k _ _ HR.out
        clear hlen
        go_wp2_with fail
        refine (word_any wr g (off + 4 * k) (64 - 4 * k) (cap - 4 * k) (byteN b (4 * k)) (byteN b (4 * k + 1)) (byteN b (4 * k + 2)) (byteN b (4 * k + 3)) (by omega) E0.out E1.out E2.out E3.out (byteN_lt _ _) (byteN_lt _ _) (byteN_lt _ _) (byteN_lt _ _)).mono ?_
        rintro e w' ⟨rfl, j, rfl⟩
        go_wp2_with fail
        go_roundw
        case rel =>
          refine srel_step (wr := wr.drewN j) HR.out HZ.out HZS.out (HK.out.trans (Kp.drewN (fun _ => False) wr j) fun _ h => h.elim) h1 ?_
          rw [sched, if_pos h2]
          rfl
        case measure => simp [intOf]; omega
      · obtain ⟨P, hP⟩ : ∃ P, P = sched b k := ⟨_, rfl⟩
        have hlen : P.length = k := by rw [hP]; exact sched_length b k
        have hrw := HR.out
        rw [← hP] at hrw
        have c15 : wr.cell? ⟨w.heap.size + 1, k - 15, none⟩ = some (.int .u32 ((P.getD (k - 15) 0 : Nat) : Int)) := by rw [cell_of_row _ _ _ _ _ _ hrw]; exact rowU_get P 64 (k - 15) (by omega) (by omega)
        have c2 : wr.cell? ⟨w.heap.size + 1, k - 2, none⟩ = some (.int .u32 ((P.getD (k - 2) 0 : Nat) : Int)) := by rw [cell_of_row _ _ _ _ _ _ hrw]; exact rowU_get P 64 (k - 2) (by omega) (by omega)
        have c16 : wr.cell? ⟨w.heap.size + 1, k - 16, none⟩ = some (.int .u32 ((P.getD (k - 16) 0 : Nat) : Int)) := by rw [cell_of_row _ _ _ _ _ _ hrw]; exact rowU_get P 64 (k - 16) (by omega) (by omega)
        have c7 : wr.cell? ⟨w.heap.size + 1, k - 7, none⟩ = some (.int .u32 ((P.getD (k - 7) 0 : Nat) : Int)) := by rw [cell_of_row _ _ _ _ _ _ hrw]; exact rowU_get P 64 (k - 7) (by omega) (by omega)
        have hcell : ∃ v, wr.cell? ⟨w.heap.size + 1, k, none⟩ = some v := by
          rw [cell_of_row _ _ _ _ _ _ hrw]
          exact ⟨(rowU P 64)[k]'(by rw [rowU_size _ _ (by omega)]; exact h1), by simp [rowU_size _ 64 (show P.length ≤ 64 by omega), h1]⟩
        obtain ⟨v0, hc0⟩ := hcell
        have hf0 := frozen_of_row wr (w.heap.size + 1) k _ _ hrw
        obtain ⟨x15, h15⟩ : ∃ x, x = P.getD (k - 15) 0 := ⟨_, rfl⟩
        obtain ⟨x2, hx2⟩ : ∃ x, x = P.getD (k - 2) 0 := ⟨_, rfl⟩
        obtain ⟨x16, h16⟩ : ∃ x, x = P.getD (k - 16) 0 := ⟨_, rfl⟩
        obtain ⟨x7, h7⟩ : ∃ x, x = P.getD (k - 7) 0 := ⟨_, rfl⟩
        rw [← h15] at c15
        rw [← hx2] at c2
        rw [← h16] at c16
        rw [← h7] at c7
        have HX : Hid (sched b (k + 1) = sched b k ++ [add32 (add32 (add32 x16 (s0 x15)) x7) (s1 x2)]) := by
          apply Lib.hid
          rw [sched, if_neg h2, nextW, ← hP, h15, hx2, h16, h7]
        clear hlen hrw hP h15 hx2 h16 h7
        have hxr := bits_xor32
        have had := wrap_add32
        have hs8 : (x15 : Int) / 8 = ((shr32 x15 3 : Nat) : Int) := by simp [shr32]
        have hs10 : (x2 : Int) / 1024 = ((shr32 x2 10 : Nat) : Int) := by simp [shr32]
        have l16 : (16 : Int) ≤ k := by omega
        have l64 : (k : Int) < 64 := by omega
        go_wp2_with fail
        go_quiet (fail)
        go_wp2_with fail
        refine (rotl_at x15 _ 7 (by omega) (by omega) rfl _).mono ?_
        rintro e w' ⟨rfl, rfl⟩
        go_wp2_with fail
        refine (rotl_at x15 _ 18 (by omega) (by omega) rfl _).mono ?_
        rintro e w' ⟨rfl, rfl⟩
        go_wp2_with fail
        refine (rotl_at x2 _ 17 (by omega) (by omega) rfl _).mono ?_
        rintro e w' ⟨rfl, rfl⟩
        go_wp2_with fail
        refine (rotl_at x2 _ 19 (by omega) (by omega) rfl _).mono ?_
        rintro e w' ⟨rfl, rfl⟩
        go_wp2_with fail
        have hw16 : IntKind.i64.wrap ((k : Int) - 16) = (k : Int) - 16 := IntWalk.i64_in _ (by omega)
        have hw7 : IntKind.i64.wrap ((k : Int) - 7) = (k : Int) - 7 := IntWalk.i64_in _ (by omega)
        have n16 : (0 : Int) ≤ (k : Int) - 16 := by omega
        have n7 : (0 : Int) ≤ (k : Int) - 7 := by omega
        have l7 : (7 : Int) ≤ k := by omega
        have m16 : (k : Int) - 16 < 64 := by omega
        have m7 : (k : Int) - 7 < 64 := by omega
        have t16 : ((k : Int) - 16).toNat = k - 16 := by omega
        have t7 : ((k : Int) - 7).toNat = k - 7 := by omega
        go_region_held3 (fun w' => w'.cell? ⟨w.heap.size + 1, k - 16, none⟩ = some (.int .u32 (x16 : Int)) ∧ w'.cell? ⟨w.heap.size + 1, k - 7, none⟩ = some (.int .u32 (x7 : Int))) (first | go_keep | exact ⟨(World.cell?_setCell_other _ _ _ _ (fun e => by simp at e <;> omega)).trans c16, (World.cell?_setCell_other _ _ _ _ (fun e => by simp at e <;> omega)).trans c7⟩) (fail)
        go_wp2_with fail
        go_roundw
        case rel =>
          exact srel_step (wr := wr.drewN (nq + 1)) HR.out HZ.out HZS.out (HK.out.trans (Kp.drewN (fun _ => False) wr _) fun _ h => h.elim) h1 HX.out
        case measure => simp [intOf]; omega
    · obtain rfl : k = 64 := by omega
      obtain ⟨S, hS⟩ : ∃ S, S = sched b 64 := ⟨_, rfl⟩
      have hl : S.length = 64 := by rw [hS]; exact sched_length b 64
      have hr := HR.out
      rw [← hS, rowU_full _ _ hl] at hr
      have HR2 := Lib.hid hr
      have HI : Hid ((Try.prog.info? 58).map (·.size) = some (u32Cells S).toArray.size) := Lib.hid (info58.trans (by simp [u32Cells, hl]))
      have HZ2 : Hid (z.size = (u32Cells S).toArray.size) := Lib.hid (HZS.out.trans (by simp [u32Cells, hl]))
      have HS := Lib.hid hS
      clear hS hl hr HR
      go_wp2_with (first
        | (refine wpList_load_row rfl 58 (.tmp 3) rfl (w.heap.size + 1) rfl 58 _ (0, 0) _ HR2.out Try.underlying58 rfl HI.out ?_)
        | (refine wpList_store_row rfl 58 (.tmp 2) (.tmp 61) rfl w.heap.size (u32Cells S).toArray rfl rfl 58 z HZ.out HI.out HZ2.out (oneU32 _) ?_))
      refine bodyPost_ret (v := .agg (u32Cells S).toArray) (results_cell_row rfl _ _ w.heap.size 58 _ (0, 0) _ rfl (setRow_heap _ _ _ _ _ _ HZ.out) Try.underlying58 rfl HI.out) rfl ⟨by rw [HS.out], ?_⟩
      exact HK.out.trans (kp_setRow (F := fun k => k = w.heap.size) _ _ _ rfl) fun k hk => .inr (by omega)

end Go.Proofs.Ytgkdjcednebgoaa
