/- The map from hashes to texts. -/
import Derived.Test.YtlkamfmepjddkaaN1
import Derived.Maps.OwnSet
import Derived.Maps.StringElems
import Derived.DeepKeys4
set_option linter.unusedSimpArgs false
set_option linter.unusedVariables false
namespace Go.Proofs.Ytlkamfmepjddkaa
open Go.RowKit Go.Lib Go.Maps

theorem laidOutT : laidOutB Try.prog = true := by kernel_rfl
theorem hash_keyed : Keyed Try.prog 44 := Keyed.of_law (deep_law_laid (m := 5) laidOutT (by omega) (of_decide_eq_true (by kernel_rfl)) (by kernel_rfl) (by kernel_rfl))
theorem zero9 (w : World) : (zeroValue 9).run Try.prog w = .ok (.string emptyS) w := by kernel_rfl
theorem cellsOf44 : Try.prog.cellsOf 44 = 32 := by kernel_rfl
theorem cellsOf5 : Try.prog.cellsOf 5 = 1 := by kernel_rfl
theorem types_size : ∃ m, Try.prog.types.size + 1 = m + 2 := ⟨117 + 1, by kernel_rfl⟩
theorem keyType44 : Try.prog.keyType 44 = true := by kernel_rfl

theorem mapM_some {α β : Type} (f : α → Option β) (g : α → β) : ∀ l : List α, (∀ x ∈ l, f x = some (g x)) → l.mapM f = some (l.map g)
  | [], _ => rfl
  | x :: l, h => by
    rw [List.mapM_cons, h x (by simp), mapM_some f g l fun y hy => h y (by simp [hy])]
    rfl

theorem wf_byte (x : UInt8) : (Lit.int .u8 (x.toNat : Int)).wf = true := by
  have := UInt8.toNat_lt x
  simp [Lit.wf, IntKind.min, IntKind.max, IntKind.signed, IntKind.bits]
  omega

/-- Each hash is a key. -/
theorem hash_key (h : List UInt8) (hl : h.length = 32) : ∃ kl, keyOf Try.prog 44 (.agg (byteCells h).toArray) = some kl := by
  obtain ⟨m, hm⟩ := types_size
  refine ⟨.string (keyBytes (((List.range 32).map fun i => [Lit.int .u8 ((h.getD i 0).toNat : Int)]).flatten)), ?_⟩
  unfold keyOf
  simp only [Try.underlying44, keyType44, Value.formed, cellsOf44, Bool.true_and]
  rw [if_pos (by simp [byteCells_length, hl]), hm]
  unfold Program.keyLits
  simp only [Try.underlying44, cellsOf44, cellsOf5]
  have e1 : (Value.agg (byteCells h).toArray).cells.toList = byteCells h := by simp [Value.cells]
  rw [e1, if_pos (by rw [byteCells_length, hl])]
  rw [mapM_some _ (fun i => [Lit.int .u8 ((h.getD i 0).toNat : Int)]) (List.range 32) (fun i hi => ?_)]
  · rfl
  · have h32 : i < 32 := by simpa using hi
    have hb := rowB_some h i (by omega)
    rw [← Array.getElem?_toList, List.toList_toArray] at hb
    obtain ⟨hlt, hb⟩ := List.getElem?_eq_some_iff.1 hb
    have e2 : ((byteCells h).drop (i * 1)).take 1 = [.int .u8 ((h.getD i 0).toNat : Int)] := by
      rw [Nat.mul_one, List.drop_eq_getElem_cons hlt, hb]
      rfl
    rw [e2]
    have hw := wf_byte (h.getD i 0)
    unfold Program.keyLits
    simp only [Try.underlying5]
    simp only [hw, and_self, if_true]

theorem agg_inj (h h' : List UInt8) (e : Value.agg (byteCells h).toArray = Value.agg (byteCells h').toArray) : h = h' := by
  have e1 : byteCells h = byteCells h' := by
    have := congrArg (fun v : Value => v.cells.toList) e
    simpa [Value.cells] using this
  refine (List.map_inj_right fun a b hab => ?_).1 e1
  injection hab with _ h2
  exact UInt8.toNat_inj.1 (by omega)

/-- A map at block g, of at most n entries, its texts known. -/
def MapQ (w : World) (g n : Nat) (f : List UInt8 → ByteArray) : Prop :=
  ∃ D : DataW Unit, w.ownsMap Try.prog 44 (plainElem Try.prog 9) g n D ∧ ∀ h kl, h.length = 32 → keyOf Try.prog 44 (.agg (byteCells h).toArray) = some kl → D.atKey kl (.lit (.string emptyS.data.toList)) = .lit (.string (f h).data.toList)

/-- What a net's map holds: the texts of the packets; the first one of each hash. -/
def MapP (w : World) (B : Nat) (vm : Value) (f : List UInt8 → ByteArray) : Prop :=
  (vm = .map none ∧ ∀ h, f h = emptyS) ∨ ∃ (g n : Nat), vm = .map (some g) ∧ B ≤ g ∧ MapQ w g n f

theorem MapP.lookup {w : World} {B : Nat} {vm : Value} {f : List UInt8 → ByteArray} (hm : MapP w B vm f) (h : List UInt8) (hl : h.length = 32) :
    (Instr.lookup 68 vm (.agg (byteCells h).toArray) false).run Try.prog w = .ok (.string (f h)) w := by
  obtain ⟨kl, hk⟩ := hash_key h hl
  rcases hm with ⟨rfl, hf⟩ | ⟨g, n, rfl, _, D, hown, hat⟩
  · rw [hf h]
    have hc := hash_keyed.check w true hk
    simp [Instr.lookup, run_underlying Try.underlying68, hc, Instr.findKey, run_underlying Try.underlying44, Instr.findNow, Result.andThen]
    rfl
  · have he : plainElem (H := Unit) Try.prog 9 (.string emptyS) = some (.lit (.string emptyS.data.toList), []) := plainElem_string Try.underlying9 (by decide +kernel)
    obtain ⟨v, ps, hrun, hv⟩ := hown.lookup hash_keyed Try.underlying68 (zero9 w) he hk
    obtain ⟨s, rfl, hs, _⟩ := plainElem_string_inv Try.underlying9 hv
    rw [hat h kl hl hk] at hs
    simp only [Prod.mk.injEq, DataW.lit.injEq, Lit.string.injEq] at hs
    rw [hrun, ba_ext hs.1]

theorem MapQ.keep {F : Nat → Prop} {w w' : World} {g n : Nat} {f : List UInt8 → ByteArray} (h : MapQ w g n f) (hk : Kp F w w') (hF : ¬ F g) : MapQ w' g n f := by
  obtain ⟨D, ⟨es, clock, hb, rest⟩, hat⟩ := h
  exact ⟨D, ⟨es, clock, (hk.block g (Array.getElem?_eq_some_iff.1 hb).1 hF).trans hb, rest⟩, hat⟩
theorem MapP.keep {F : Nat → Prop} {w w' : World} {B : Nat} {vm : Value} {f : List UInt8 → ByteArray} (h : MapP w B vm f) (hk : Kp F w w') (hF : ∀ k, vm = .map (some k) → ¬ F k) : MapP w' B vm f := by
  rcases h with h | ⟨g, n, rfl, hB, hq⟩
  · exact .inl h
  · exact .inr ⟨g, n, rfl, hB, hq.keep hk (hF g rfl)⟩
theorem MapQ.lt {w : World} {g n : Nat} {f : List UInt8 → ByteArray} (h : MapQ w g n f) : g < w.heap.size := by
  obtain ⟨D, hown, _⟩ := h
  exact hown.lt

theorem MapQ.made (w : World) : MapQ (w.alloc (.map #[] 0)) w.heap.size 0 (fun _ => emptyS) :=
  ⟨.map [], World.ownsMap_made _ _ _ _, fun _ _ _ _ => rfl⟩

def putF (f : List UInt8 → ByteArray) (h : List UInt8) (b : ByteArray) : List UInt8 → ByteArray := fun x => if x = h then b else f x

/-- A store into the map. -/
theorem MapQ.update {w : World} {g n : Nat} {f : List UInt8 → ByteArray} (hm : MapQ w g n f) (hn : n ≤ 100000) (h : List UInt8) (hl : h.length = 32) (b : ByteArray) (hb : b.size ≤ 1000) :
    ∃ w', (Instr.mapUpdate 68 (.map (some g)) (.agg (byteCells h).toArray) (.string b)).run Try.prog w = .ok () w' ∧ w.grownBy w' (some g) ∧ MapQ w' g (n + 1) (putF f h b) := by
  obtain ⟨D, hown, hat⟩ := hm
  obtain ⟨kl, hk⟩ := hash_key h hl
  obtain ⟨w', hrun, ho, hg⟩ := hown.update (d := .lit (.string b.data.toList)) (ps := []) hash_keyed Try.underlying68 (by unfold maxLen; omega) hk (plainElem_string Try.underlying9 (by unfold maxLen; omega))
  refine ⟨w', hrun, hg, _, ho, fun x lx hxl hx => ?_⟩
  unfold putF
  by_cases e : x = h
  · subst e
    rw [hk] at hx
    cases hx
    rw [if_pos rfl, atKey_put_same hown.isMap (hash_keyed.key hk)]
  · rw [if_neg e, atKey_put_other (fun e2 => ?_)]
    · exact hat x lx hxl hx
    · subst e2
      exact e (agg_inj _ _ (hash_keyed.inj hx hk))

end Go.Proofs.Ytlkamfmepjddkaa
