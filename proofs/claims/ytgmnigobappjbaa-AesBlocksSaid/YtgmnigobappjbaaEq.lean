/- Two rows of bytes compared. No program is named here but by its variable. Conditions: none. -/
import Derived.Test.YtgmnigobappjbaaArr
import Derived.ChangeKeysEq
import Derived.Laws.StructEq
namespace Go.Proofs.Ytgmnigobappjbaa
open Go.RowKit

def sameB (n : Nat) (f g : Nat → UInt8) : Bool := (List.range n).all fun i => f i == g i

theorem run_items_arr {P : Program} {e : TypeId} {n : Nat} (f g : Nat → UInt8) {i : TypeInfo} (hi : P.info? e = some i) (he : P.underlying e = some (.int .u8)) (d : Nat) (w : World) :
    ∀ l : List Nat, (∀ j ∈ l, j < n) → (Op.eqItems (d + 1) e 1 (arr n f) (arr n g) l).run P w = .ok (l.all fun j => f j == g j) w
  | [], _ => by simp [Op.eqItems]
  | j :: l, h => by
    have hagg : (isAgg e).run P w = .ok false w := by
      unfold isAgg
      rw [Sem.run_bind, run_underlying he w]
      rfl
    have hj := h j (by simp)
    have ih := run_items_arr f g hi he d w l fun k hk => h k (by simp [hk])
    simp only [Op.eqItems, Sem.run_bind, part, hagg, Result.andThen_ok, Nat.mul_one, arr_at hj, Sem.run_pure, Bool.false_eq_true, if_false, byt]
    rw [run_equalIn_int w d e .u8 .u8 _ _ he]
    simp only [Result.andThen_ok]
    by_cases hfg : f j = g j
    · have : ((f j).toNat : Int) = (g j).toNat := by rw [hfg]
      simp [hfg, ih]
    · have : ¬ ((f j).toNat : Int) = (g j).toNat := fun hc => hfg (UInt8.toNat_inj.1 (by omega))
      have h2 : (((f j).toNat : Int) == ((g j).toNat : Int)) = false := by rw [beq_eq_false_iff_ne]; exact this
      rw [h2]
      simp [hfg]

theorem run_eql_arr {P : Program} {t e : TypeId} {n : Nat} {i : TypeInfo} (hu : P.underlying t = some (.array n e)) (hi : P.info? e = some i) (hs : P.cellsOf e = 1) (he : P.underlying e = some (.int .u8)) (f g : Nat → UInt8) (w : World) :
    (Op.equalIn 10000 t (.agg (arr n f)) (.agg (arr n g))).run P w = .ok (sameB n f g) w := by
  rw [show (10000 : Nat) = (9998 + 1) + 1 from rfl, run_equalIn_array w (9998 + 1) _ _ hu hi, hs, run_items_arr f g hi he 9998 w (List.range n) fun j hj => List.mem_range.1 hj]
  rfl

end Go.Proofs.Ytgmnigobappjbaa
