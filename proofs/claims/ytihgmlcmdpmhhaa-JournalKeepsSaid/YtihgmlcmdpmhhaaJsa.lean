/- JournalScans: plain; small walks. -/
import Derived.Test.YtihgmlcmdpmhhaaJwk
import Derived.Test.YtihgmlcmdpmhhaaPik
namespace Go.Proofs.Ytihgmlcmdpmhhaa
set_option linter.unusedVariables false
set_option linter.unusedSimpArgs false
namespace Jrn
open Go.RowKit Mem Apn Wire Aps
/-- A record's first 5000 bytes. -/
def sh (r : List Int) : List Int := r.take 5000
theorem sh_length (r : List Int) : (sh r).length = min 5000 r.length := by unfold sh; rw [List.length_take]
/-- How much the law counts. -/
def tot : List (List Int) → Nat
  | [] => 0
  | r :: rs => 20 + min r.length 5000 + tot rs
theorem tot_append (L M : List (List Int)) : tot (L ++ M) = tot L + tot M := by
  induction L with
  | nil => simp [tot]
  | cons r rs ih => simp only [List.cons_append, tot, ih]; omega
theorem take_getD {α : Type} (L : List α) (k : Nat) (d : α) (h : k < L.length) : L.take (k + 1) = L.take k ++ [L.getD k d] := by
  rw [List.take_succ_eq_append_getElem h, List.getD_eq_getElem?_getD, List.getElem?_eq_getElem h]; rfl
theorem tot_take (R : List (List Int)) (k : Nat) (h : k < R.length) : tot (R.take (k + 1)) = tot (R.take k) + (20 + min (R.getD k []).length 5000) := by
  rw [take_getD R k [] h, tot_append]; simp [tot]
theorem tot_le (R : List (List Int)) (k : Nat) : tot (R.take k) ≤ tot R := by
  have := tot_append (R.take k) (R.drop k)
  rw [List.take_append_drop] at this
  omega
theorem tot_len (R : List (List Int)) : 20 * R.length ≤ tot R := by
  induction R with
  | nil => simp [tot]
  | cons r rs ih => simp only [tot, List.length_cons]; omega
theorem frs_le_tot (L : List (List Int)) : ∀ k, k + L.length ≤ 18446744073709551615 → (frs k (L.map sh)).length ≤ tot L + 2 * L.length := by
  induction L with
  | nil => intro k _; simp [frs, tot]
  | cons r rs ih =>
    intro k hk
    simp only [List.length_cons] at hk
    have h1 := ih (k + 1) (by omega)
    have h2 := frameL_le (k + 1) (sh r) (by unfold U64; omega) (by rw [sh_length]; omega)
    rw [sh_length] at h2
    simp only [List.map_cons, frs, tot, List.length_append, List.length_cons]
    omega
theorem frs_tot (R : List (List Int)) (k : Nat) (h : tot R ≤ 16777216) : (frs 0 ((R.take k).map sh)).length ≤ 20000000 := by
  have h1 := tot_le R k
  have h2 := tot_len (R.take k)
  have h3 := frs_le_tot (R.take k) 0 (by omega)
  omega
theorem recs_sh (R : List (List Int)) (h : ∀ r ∈ R, Byt r) : Recs (R.map sh) := by
  intro x hx
  obtain ⟨r, hr, rfl⟩ := List.mem_map.1 hx
  exact ⟨by rw [sh_length]; omega, fun c hc => h r hr c (List.mem_of_mem_take hc)⟩
theorem cutH {A : Option Addr} {n c m : Nat} (hm : m ≤ c) (W : World) : (Instr.slice 23 (.slice A n c) none (some (.int .i64 (m : Int))) none).run Try.prog W = .ok (.slice A m c) W := by
  have hel : Try.prog.elem 23 = 5 := by simp [Program.elem, Try.underlying23]
  have hu : Try.prog.underlying 23 = some (.slice (Try.prog.elem 23)) := by rw [hel]; exact Try.underlying23
  rw [run_slice_h W 23 A n c hu .i64 (m : Int) (Int.natCast_nonneg _) (by omega), hel]
  obtain ⟨i0, hi, hz⟩ := Option.map_eq_some_iff.1 Wire.info_size
  cases A <;> simp [sizeOf, typeInfo, hi, hz, sliced, Result.andThen, Addr.add]
theorem info_rsz : (Try.prog.info? 23).map (fun i => i.size) = some 1 := by kernel_rfl
theorem cutRH {A : Option Addr} {n c m : Nat} (hm : m ≤ c) (W : World) : (Instr.slice 22 (.slice A n c) none (some (.int .i64 (m : Int))) none).run Try.prog W = .ok (.slice A m c) W := by
  have hel : Try.prog.elem 22 = 23 := by simp [Program.elem, Try.underlying22]
  have hu : Try.prog.underlying 22 = some (.slice (Try.prog.elem 22)) := by rw [hel]; exact Try.underlying22
  rw [run_slice_h W 22 A n c hu .i64 (m : Int) (Int.natCast_nonneg _) (by omega), hel]
  obtain ⟨i0, hi, hz⟩ := Option.map_eq_some_iff.1 info_rsz
  cases A <;> simp [sizeOf, typeInfo, hi, hz, sliced, Result.andThen, Addr.add]
theorem openI_new (p : List Int) (L : List (List Int)) (m : Nat) (je : Jr) (hs : scan p = (L, m, je)) (hm : m ≤ p.length) (hp : p.length ≤ 1000000000) :
    (openI (newS p)).B = p.take m ∧ (openI (newS p)).D = p.take m ∧ (openI (newS p)).dead = false ∧ (openI (newS p)).Good := by
  have hb : (newS p).B = p := rfl
  unfold openI
  rw [hb, hs]
  simp only
  split
  · refine ⟨rfl, rfl, rfl, ⟨Nat.le_refl _, ?_, ?_, by simp [syncd, cutS, newS], by simp [syncd, cutS, newS], by simp [syncd, cutS, newS]⟩⟩ <;> · simp only [syncd, cutS, newS, List.length_take]; omega
  · have hmp : p.take m = p := List.take_of_length_le (by omega)
    rw [hmp]
    refine ⟨rfl, rfl, rfl, ⟨Nat.le_refl _, ?_, ?_, by simp [syncd, newS], by simp [syncd, newS], by simp [syncd, newS]⟩⟩ <;> · simp only [syncd, newS]; omega
/-- The row of the records' beginnings: k of them. -/
structure Sht (w0 w : World) (ok : Nat → Prop) (v : Value) (R : List (List Int)) (k : Nat) : Prop where
  ex : ∃ V : Nat → Value, w.ownsW w0.heap.size 23 1 v k ((List.range k).map V) ∧ ∀ j, j < k → ∃ a c, V j = .slice a (sh (R.getD j [])).length c ∧ (sh (R.getD j [])).length ≤ c ∧ RdN w0 ok .u8 a (sh (R.getD j [])).length (sh (R.getD j []))
set_option maxHeartbeats 1000000 in
set_option maxRecDepth 100000 in
theorem begins_any (ok ok' : Nat → Prop) (A A' : Option Addr) (n n' c c' : Nat) (least : Nat) (xs ys : List (List Int)) (w : World) (hr : RdR w ok A n xs) (hr' : RdR w ok' A' n' ys) (hc' : n' ≤ c') (hl : n' ≤ 1000000000)
    (hx : ∀ r ∈ ys, r.length ≤ 9223372036854775807) (hn : n ≤ n') (hls : least ≤ n) (he : xs = ys.take n) :
    Calls Try.prog 10 #[.slice A n c, .slice A' n' c', .int .i64 least] w fun e w' => e = .returned (.bool true) ∧ ∃ m, w' = w.drewN m := by
  have hf := hr'.front hn
  rw [← he] at hf
  have hxs : ∀ r ∈ xs, r.length ≤ 9223372036854775807 := fun r h => hx r (by rw [he] at h; exact List.mem_of_mem_take h)
  have HS := Held.mk (samerec_any ok ok' A A' n n c c' xs xs w hr hf (by omega) (by omega) hxs hxs)
  rw [decide_eq_true rfl] at HS
  have hct : ∀ W, (Instr.slice 22 (.slice A' n' c') none (some (.int .i64 (n : Int))) none).run Try.prog W = .ok (.slice A' n c') W := fun W => cutRH (by omega) W
  clear hr hr' hf hx hxs he
  go_enter Try.func10, Try.ntmps10
  go_wp2_with fail
  refine HS.out.mono ?_
  rintro e w1 ⟨rfl, m, rfl⟩
  go_wp2_with fail
  go_ret
  exact ⟨rfl, m, rfl⟩
end Jrn
end Go.Proofs.Ytihgmlcmdpmhhaa
