/- journal.own: walked. -/
import Derived.Test.YtihgmlcmdpmhhaaKept
import Derived.Test.YtihgmlcmdpmhhaaApN
import Derived.Test.YtihgmlcmdpmhhaaPut
import Derived.Test.YtihgmlcmdpmhhaaAps
namespace Go.Proofs.Ytihgmlcmdpmhhaa
set_option linter.unusedVariables false
set_option linter.unusedSimpArgs false
namespace Jrn
open Go.RowKit Mem Apn
/-- A row of bytes of one's own that was cut to its length. -/
def OwnC (w : World) (base : Nat) (v : Value) (xs : List Int) : Prop := OwnN w base 5 .u8 v xs ∧ ∃ A, v = .slice A xs.length xs.length
/-- Cut to m of its bytes, without room behind. -/
theorem OwnC.cut {w : World} {base : Nat} {A : Option Addr} {c m : Nat} {xs : List Int} (h : OwnN w base 5 .u8 (.slice A xs.length c) xs) (hm : m ≤ xs.length) : OwnC w base (.slice A m m) (xs.take m) := by
  have hl : (xs.take m).length = m := by rw [List.length_take]; omega
  refine ⟨?_, A, by rw [hl]⟩
  rcases h.2 with ⟨e, h0⟩ | ⟨g, cap, cur, e, _⟩
  · injection e with e1 e2 e3
    subst e1
    obtain rfl : m = 0 := by omega
    exact own_nil _ _ _ _
  · injection e with e1 e2 e3
    subst e1
    subst e3
    have h1 := World.ownsW.trim h m hm
    unfold OwnN
    rw [hl]
    have e2 : (nums .u8 xs).take (m * 1) = nums .u8 (xs.take m) := by simp [nums, List.map_take]
    rw [e2] at h1
    exact h1
theorem OwnC.of {w : World} {base : Nat} {A : Option Addr} {c n : Nat} {xs : List Int} (h : OwnN w base 5 .u8 (.slice A xs.length c) xs) (hn : n = xs.length) : OwnC w base (.slice A n n) xs := by
  subst hn
  have h1 := OwnC.cut h (Nat.le_refl _)
  rwa [List.take_length] at h1
set_option maxHeartbeats 1000000 in
set_option maxRecDepth 100000 in
theorem own_any (ok : Nat → Prop) (A : Option Addr) (n c : Nat) (xs : List Int) (w : World) (hr : RdN w ok .u8 A n xs) (hl : n ≤ 140737488355328) :
    Calls Try.prog 29 #[.slice A n c] w fun e w' => ∃ v, e = .returned v ∧ OwnC w' w.heap.size v xs ∧ Below w.heap.size w w' := by
  have hlen := Held.mk hr.len
  have Hr := Held.mk hr
  have HN := Held.mk (own_nil w w.heap.size 5 1)
  have hnI : (n : Int) ≤ 140737488355328 := by omega
  have HC : Held ((0 + n + (0 + n) / 4 + 192) * 1 ≤ 281474976710656) := ⟨by omega⟩
  clear hr
  go_enter Try.func29, Try.ntmps29
  go_wp2_with ((at_builtin; go_loud (refine appN w.heap.size rfl (.const (.slice none 0 0)) (.tmp 4) 23 5 .u8 1 rfl Try.underlying23 Wire.info_u8 (by decide) _ [] rfl HN.out ok A n c xs rfl Hr.out HC.out (Nat.le_refl _) ?_)); (intro v3 w3 ho3 hg3 hat3); (rw [List.nil_append] at ho3); (obtain ⟨A3, c3, rfl, hcap, _⟩ := RdN.of_own ho3); (have HO3 := Held.mk ho3); (have HG3 := Held.mk hg3); (clear ho3 hg3 hat3); (rw [hlen.out] at hcap ⊢))
  go_ret
  refine ⟨_, rfl, OwnC.of HO3.out (by rw [hlen.out]), ((Keep.refl (fun _ => False) w).grown HG3.out (fun k hk e => by simp [Value.ownBlock, Act.eval] at e)).to_below (fun _ _ h => h)⟩
end Jrn
end Go.Proofs.Ytihgmlcmdpmhhaa
