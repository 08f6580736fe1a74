/- Walks: stale, exchange, the kinds of behaviour, and the number of replies that wait. -/
import Derived.Test.YtlkamfmepjddkaaW3
import Derived.Carry
import Derived.Laws.EntriesVeiled
set_option linter.unusedSimpArgs false
set_option linter.unusedVariables false
namespace Go.Proofs.Ytlkamfmepjddkaa
open Go.RowKit Go.Lib Go.Maps

theorem NOk.pl {s : NS} (h : NOk s) : ∀ p ∈ s.packets, p.h.length = 32 ∧ p.b.size ≤ 100 := h.hp

set_option maxHeartbeats 400000 in
theorem stale_any {w : World} {B : Nat} {V : NV} {st : NS} (h : NetP w B V st) (s : ByteArray) (k : Int) :
    Calls Try.prog 42 #[.pointer (some ⟨V.b, 0, none⟩), .string s, .int .i64 k] w (SPost w [circleS st.old k]) := by
  obtain ⟨sp, cap, hv, _, _, hs, _⟩ := Src.of_own h.old
  obtain ⟨c0, c1, c2, c3, c4, c5, cf⟩ := obj_cells h.obj
  rw [hv] at c1
  have HS := Lib.hid hs
  have HO := Lib.hid h.ok
  clear c0 c2 c3 c4 c5 cf hs hv h
  go_enter Try.func42, Try.ntmps42
  go_wp2_with fail
  refine (pick_any sp cap st.old k w HS.out HO.out.ho HO.out.lo).mono ?_
  rintro e w' ⟨v, rfl, hv, hk⟩
  go_wp2_with fail
  go_ret
  exact ⟨v, rfl, hv, hk⟩

set_option maxHeartbeats 400000 in
theorem exchange_any {w : World} {B : Nat} {V : NV} {st : NS} (h : NetP w B V st) (s : ByteArray) (k : Int) :
    Calls Try.prog 45 #[.pointer (some ⟨V.b, 0, none⟩), .string s, .int .i64 k] w (SPost w [circleS st.packets k]) := by
  obtain ⟨sp, cap, hv, _, _, hs, _⟩ := Src.of_own h.pk
  obtain ⟨c0, c1, c2, c3, c4, c5, cf⟩ := obj_cells h.obj
  rw [hv] at c0
  have HS := Lib.hid hs
  have HO := Lib.hid h.ok
  clear c1 c2 c3 c4 c5 cf hs hv h
  go_enter Try.func45, Try.ntmps45
  go_wp2_with fail
  refine (pick_any sp cap st.packets k w HS.out HO.out.hp HO.out.lp).mono ?_
  rintro e w' ⟨v, rfl, hv, hk⟩
  go_wp2_with fail
  go_ret
  exact ⟨v, rfl, hv, hk⟩



theorem check3 (em : Bool) (k : Int) (w : World) : (Instr.checkKey em 10000 3 (.int .i64 k)).run Try.prog w = .ok () w := by
  unfold Instr.checkKey
  simp [run_underlying Try.underlying3, Result.andThen]

/-- A new entry in a map that was made last. -/
theorem run_update_new (w : World) (es : Array MapEntry) (n : Nat) (k : Int) (v : Value) (g : Nat) (hg : g = w.heap.size) (hf : Instr.findNow (.int .i64) (.int .i64 k) es.toList 0 = some none) :
    (Instr.mapUpdate 88 (.map (some g)) (.int .i64 k) v).run Try.prog (w.alloc (.map es n)) = .ok () (w.alloc (.map (es.push ⟨.int .i64 k, v, n⟩) (n + 1))) := by
  subst hg
  have hb := (MapKept.heap_alloc w (.map es n)).1
  have hset := MapKept.run_setObj_map (P := Try.prog) (.map (es.push ⟨.int .i64 k, v, n⟩) (n + 1)) hb
  have hw : ({ w.alloc (.map es n) with heap := (w.alloc (.map es n)).heap.setIfInBounds w.heap.size (.map (es.push ⟨.int .i64 k, v, n⟩) (n + 1)) } : World) = w.alloc (.map (es.push ⟨.int .i64 k, v, n⟩) (n + 1)) := by
    simp only [World.alloc]
    congr 1
    apply Array.ext'
    simp [List.set_append]
  rw [hw] at hset
  simp [Instr.mapUpdate, run_underlying Try.underlying88, MapKept.run_getObj_map hb, check3, run_underlying Try.underlying3, Instr.findKey, hf, hset, Result.andThen]

def fnV (f : FuncId) : Value := .func (.func f) #[] #[]
def kindsE : Array MapEntry := #[⟨.int .i64 1, fnV 41, 0⟩, ⟨.int .i64 3, fnV 42, 1⟩, ⟨.int .i64 4, fnV 43, 2⟩, ⟨.int .i64 5, fnV 44, 3⟩, ⟨.int .i64 6, fnV 45, 4⟩, ⟨.int .i64 7, fnV 46, 5⟩]

set_option maxRecDepth 100000 in
set_option maxHeartbeats 1000000 in
theorem kinds_any (w : World) : Calls Try.prog 32 #[] w fun e w' => e = .returned (.map (some w.heap.size)) ∧ w' = w.alloc (.map kindsE 6) := by
  have hmm := @run_makeMap Try.prog
  have h1 := run_update_new w #[] 0 1 (fnV 41) _ rfl rfl
  have h2 := run_update_new w #[⟨.int .i64 1, fnV 41, 0⟩] 1 3 (fnV 42) _ rfl rfl
  have h3 := run_update_new w #[⟨.int .i64 1, fnV 41, 0⟩, ⟨.int .i64 3, fnV 42, 1⟩] 2 4 (fnV 43) _ rfl rfl
  have h4 := run_update_new w #[⟨.int .i64 1, fnV 41, 0⟩, ⟨.int .i64 3, fnV 42, 1⟩, ⟨.int .i64 4, fnV 43, 2⟩] 3 5 (fnV 44) _ rfl rfl
  have h5 := run_update_new w #[⟨.int .i64 1, fnV 41, 0⟩, ⟨.int .i64 3, fnV 42, 1⟩, ⟨.int .i64 4, fnV 43, 2⟩, ⟨.int .i64 5, fnV 44, 3⟩] 4 6 (fnV 45) _ rfl rfl
  have h6 := run_update_new w #[⟨.int .i64 1, fnV 41, 0⟩, ⟨.int .i64 3, fnV 42, 1⟩, ⟨.int .i64 4, fnV 43, 2⟩, ⟨.int .i64 5, fnV 44, 3⟩, ⟨.int .i64 6, fnV 45, 4⟩] 5 7 (fnV 46) _ rfl rfl
  simp only [fnV, List.push_toArray, List.nil_append, List.cons_append, Nat.reduceAdd] at h1 h2 h3 h4 h5 h6
  go_enter Try.func32, Try.ntmps32
  go_wp2_with fail
  go_ret
  exact ⟨rfl, rfl⟩

theorem zero86 (w : World) : (zeroValue 86).run Try.prog w = .ok .nilFunc w := by kernel_rfl

/-- Which method serves a kind of behaviour. -/
def kindF (k : Int) : Option FuncId := if k = 1 then some 41 else if k = 3 then some 42 else if k = 4 then some 43 else if k = 5 then some 44 else if k = 6 then some 45 else if k = 7 then some 46 else none

theorem kinds_look (w : World) (g : Nat) (hg : w.heap[g]? = some (.map kindsE 6)) (k : Int) :
    (Instr.lookup 88 (.map (some g)) (.int .i64 k) true).run Try.prog w = .ok (match kindF k with | some f => .tuple #[fnV f, .bool true] | none => .tuple #[.nilFunc, .bool false]) w := by
  have hfk : Instr.findNow (.int .i64) (.int .i64 k) kindsE.toList 0 = some (if k = 1 then some (0, fnV 41) else if k = 3 then some (1, fnV 42) else if k = 4 then some (2, fnV 43) else if k = 5 then some (3, fnV 44) else if k = 6 then some (4, fnV 45) else if k = 7 then some (5, fnV 46) else none) := by
    simp only [kindsE, Instr.findNow, Instr.sameNow]
    by_cases h1 : k = 1
    · subst h1; rfl
    by_cases h3 : k = 3
    · subst h3; rfl
    by_cases h4 : k = 4
    · subst h4; rfl
    by_cases h5 : k = 5
    · subst h5; rfl
    by_cases h6 : k = 6
    · subst h6; rfl
    by_cases h7 : k = 7
    · subst h7; rfl
    have b1 : (k == 1) = false := by simpa using h1
    have b3 : (k == 3) = false := by simpa using h3
    have b4 : (k == 4) = false := by simpa using h4
    have b5 : (k == 5) = false := by simpa using h5
    have b6 : (k == 6) = false := by simpa using h6
    have b7 : (k == 7) = false := by simpa using h7
    rw [b1, b3, b4, b5, b6, b7, if_neg h1, if_neg h3, if_neg h4, if_neg h5, if_neg h6, if_neg h7]
    rfl
  have hl : (Instr.lookup 88 (.map (some g)) (.int .i64 k) true).run Try.prog w = (match (if k = 1 then some (0, fnV 41) else if k = 3 then some (1, fnV 42) else if k = 4 then some (2, fnV 43) else if k = 5 then some (3, fnV 44) else if k = 6 then some (4, fnV 45) else if k = 7 then some (5, fnV 46) else none : Option (Nat × Value)) with | some x => .ok (.tuple #[x.2, .bool true]) w | none => .ok (.tuple #[.nilFunc, .bool false]) w) := by
    simp only [Instr.lookup, run_underlying Try.underlying88, Sem.run_bind, Result.andThen_ok, MapKept.run_getObj_map hg, Sem.run_pure, check3, run_underlying Try.underlying3, Instr.findKey, hfk]
    split <;> simp [*, Result.andThen, zero86]
  rw [hl]
  unfold kindF
  by_cases h1 : k = 1
  · simp [h1]
  by_cases h3 : k = 3
  · simp [h3]
  by_cases h4 : k = 4
  · simp [h4]
  by_cases h5 : k = 5
  · simp [h5]
  by_cases h6 : k = 6
  · simp [h6]
  by_cases h7 : k = 7
  · simp [h7]
  simp [h1, h3, h4, h5, h6, h7]

end Go.Proofs.Ytlkamfmepjddkaa
