/- Short words for printed code, and the rules of a walk as simp's own. -/
import Derived.Test.YtiljgimcipdadaaGreatDoorEvMay2
set_option linter.unusedVariables false
namespace Go.Proofs.YtiljgimcipdadaaGreatDoor.Ev
open Go
@[simp] def gG (d : Nat) (o : EO) : EG := ⟨some d, o, none⟩
@[simp] def gN (o : EO) : EG := ⟨none, o, none⟩
@[simp] def gT (s : Nat) (g : EG) : EG := ⟨g.dst, g.op, some (s, true)⟩
@[simp] def gF (s : Nat) (g : EG) : EG := ⟨g.dst, g.op, some (s, false)⟩
@[simp] def mv (d a : Nat) : EG := ⟨some d, .mov (.t a), none⟩
@[simp] def mi (d : Nat) (n : Int) : EG := ⟨some d, .mov (.c (.s (.int .i64 n))), none⟩
@[simp] def mb (d : Nat) (b : Bool) : EG := ⟨some d, .mov (.c (.s (.bool b))), none⟩
@[simp] def mc (d : Nat) (v : SV) : EG := ⟨some d, .mov (.c (.s v)), none⟩
@[simp] def ld (d a : Nat) : EG := ⟨some d, .load false 1 (.t a), none⟩
@[simp] def ln (d n a : Nat) : EG := ⟨some d, .load true n (.t a), none⟩
@[simp] def fd (d o a : Nat) : EG := ⟨some d, .fad o (.t a), none⟩
@[simp] def ca (d f a : Nat) : EG := ⟨some d, .call f [.t a], none⟩
@[simp] def cb (d f a b : Nat) : EG := ⟨some d, .call f [.t a, .t b], none⟩
@[simp] def cc (d f a b c : Nat) : EG := ⟨some d, .call f [.t a, .t b, .t c], none⟩
@[simp] def pO (d a b : Nat) : EG := ⟨some d, .pick (.t a) (.c (.s (.bool true))) (.t b), none⟩
@[simp] def pA (d a b : Nat) : EG := ⟨some d, .pick (.t a) (.t b) (.c (.s (.bool false))), none⟩
@[simp] def nc (d a : Nat) : EG := ⟨some d, .nilc (.t a), none⟩
@[simp] def xt (d a i : Nat) : EG := ⟨some d, .ext (.t a) i, none⟩
@[simp] def lE (d a : Nat) : EG := ⟨some d, .len (.t a), none⟩
@[simp] def nT (d a : Nat) : EG := ⟨some d, .un .not (.t a), none⟩
@[simp] def ia (d t z a b : Nat) : EG := ⟨some d, .iad t z (.t a) (.t b), none⟩
@[simp] def bb (d : Nat) (o : BinOp) (a b : Nat) : EG := ⟨some d, .bin o (.t a) (.t b), none⟩
@[simp] def bi (d : Nat) (o : BinOp) (a : Nat) (n : Int) : EG := ⟨some d, .bin o (.t a) (.c (.s (.int .i64 n))), none⟩
@[simp] def nw (d t n a : Nat) : EG := ⟨some d, .new t n (.t a), none⟩
@[simp] def ap (d t z y a b : Nat) : EG := ⟨some d, .app t z y (.t a) (.t b), none⟩
@[simp] def sr (n a b : Nat) : EG := ⟨none, .store n (.t a) (.t b), none⟩
/-- What code keeps, in the order in which it is compiled. -/
def keeps : EC → List (List Nat)
  | .ops _ k => [k]
  | .draw _ _ k => [k]
  | .seq a b => keeps a ++ keeps b
  | .cond _ a b => keeps a ++ keeps b
  | .block _ b => keeps b
  | .loop k b => k :: keeps b
  | .exit _ k => [k]
  | .ret k => [k]
  | .scope b => keeps b
  | .goto _ k => [k]
  | _ => []
attribute [simp] List.getElem?_cons_zero List.getElem?_cons_succ List.map_cons List.map_nil Option.getD_some Option.getD_none List.append_assoc List.cons_append List.nil_append wpk_skip wpk_seq k_cond wpk_block wpk_exit wpk_ret wpk_goto wpk_label wpk_loop k_ops k_draw0 t_nil t_cons KT_eq KD_eq wpo_nil k_cons k_step mt_some mtk_some KO_eq KP_eq K_normal K_ret K_exit KB_normal KB_ret KB_exit KL_normal KL_ret KL_exit K_goto KB_goto KL_goto KS_goto KS_ret KS_normal KS_exit k_ret k_normal stepE isCall calleeE opE wantE odE odS odL odSL fget fput initE keepF binE intOp strOp shOp unE eqpE eqnE neqB ressE resE packL packE flat1 fcells fillE setL cellsOf_bind cellsO_own cellsO_ro lenE_sl lenE_nils lenE_sl0 bound rep minE maxE isKey nlS get_lt set_lt get_len get_len_add set_len set_len_add slotsG slotsE odT odsT optT partsT okPairs okPair changesE rdAft rdO frLt nmV nmVL nmL nmS
end Go.Proofs.YtiljgimcipdadaaGreatDoor.Ev
