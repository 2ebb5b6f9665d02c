/- Contracts of the functions of the program over slots and rows, each proved against the program itself; no condition beyond those that each theorem names. -/
import Derived.Test.YtfkmfobbgoflgaaGreatDoorAI
import Derived.Test.YtfkmfobbgoflgaaGreatDoorAH
set_option linter.unusedSimpArgs false
set_option linter.unusedVariables false
set_option maxRecDepth 100000
namespace Go.Proofs.Dev
def FG (c:UInt8):List (List UInt8) → List UInt8
 | [] => []
 | [p] => p
 | p::q::ps => p ++ c::FG c (q::ps)
theorem TE (c:UInt8) (p:List UInt8) {ps:List (List UInt8)} (h:ps ≠ []):FG c (p::ps) = p ++ c::FG c ps:= by
 cases ps with
 | nil => exact absurd rfl h
 | cons q ps => rfl
def sgC (cs:List Bool) (ds:List Int) (k:Nat):UInt8:= if atb cs k then b8 (48 + ati ds k) else 46
def OG (W:Nat) (cs:List Bool) (ds:List Int) (y:Nat):List UInt8:= (List.range W).map fun x => sgC cs ds (y * W + x)
def HU (W:Nat) (cs:List Bool) (ds:List Int):Nat → List (List UInt8)
 | 0 => []
 | y + 1 => OG W cs ds y::HU W cs ds y
def TF (W T:Int) (cs:List Bool) (ds:List Int):List UInt8:= if (Am W T cs && B4 cs ds) = true then FG 47 (HU W.toNat cs ds T.toNat) else []
@[simp] theorem nN (W:Nat) (cs:List Bool) (ds:List Int) (y:Nat):(OG W cs ds y).length = W:= by simp [OG]
@[simp] theorem KY (W:Nat) (cs:List Bool) (ds:List Int):∀ n,(HU W cs ds n).length = n
  | 0 => rfl
  | n + 1 => by simp [HU,KY W cs ds n]
def okC (c:UInt8):Bool:= decide (c.toNat = 46 ∨ 48 ≤ c.toNat ∧ c.toNat ≤ 54)
theorem kA {n:Int} (_h0:0 ≤ n) (h1:n < 256):(b8 n).toNat = n.toNat:= by
 show (UInt8.ofNat n.toNat).toNat = _
 simp
 omega
theorem Yo {W T y x:Nat} (hy:y < T) (hx:x < W):y * W + x < T * W:= by
 have:(y + 1) * W ≤ T * W:= Nat.mul_le_mul_right _ hy
 rw [Nat.succ_mul] at this
 omega
def OH (sg:Nat → UInt8) (W y:Nat):List UInt8:= (List.range W).map fun x => sg (y * W + x)
def H4 (sg:Nat → UInt8) (W:Nat):Nat → List (List UInt8)
 | 0 => []
 | y + 1 => OH sg W y::H4 sg W y
@[simp] theorem nO (sg:Nat → UInt8) (W y:Nat):(OH sg W y).length = W:= by simp [OH]
@[simp] theorem KZ (sg:Nat → UInt8) (W:Nat):∀ n,(H4 sg W n).length = n
  | 0 => rfl
  | n + 1 => by simp [H4,KZ sg W n]
theorem gn {W x:Nat} (sg:Nat → UInt8) (y:Nat) (h:x < W):(OH sg W y).take (x + 1) = (OH sg W y).take x ++ [sg (y * W + x)]:= by
 rw [List.take_succ_eq_append_getElem (by simp [h])]
 simp [OH]
theorem TG (W:Nat) (sg:Nat → UInt8) {n:Nat} (h:0 < n):FG 47 (H4 sg W (n + 1)) = OH sg W n ++ 47::FG 47 (H4 sg W n):= by
 rw [H4,TE 47 _ (fun e => by have:= congrArg List.length e; simp at this; omega)]
theorem Vm {W:Nat} (sg:Nat → UInt8):∀ n:Nat,(FG 47 (H4 sg W n)).length ≤ n * (W + 1)
 | 0 => by simp [H4,FG]
 | 1 => by show (OH sg W 0).length ≤ _; simp
 | n + 2 => by
   rw [TG W sg (by omega)]
   have:= Vm sg (n + 1) (W:= W)
   have e:(n + 2) * (W + 1) = (n + 1) * (W + 1) + (W + 1):= by rw [show n + 2 = n + 1 + 1 by omega,Nat.succ_mul]
   simp
   omega
theorem dW {W n:Nat} (sg:Nat → UInt8) (hW:0 < W) (hn:0 < n):FG 47 (H4 sg W n) ≠ []:= by
 intro e
 have h1:OH sg W (n - 1) ≠ []:= fun h => by have:= congrArg List.length h; simp at this; omega
 obtain ⟨m,rfl⟩:∃ m,n = m + 1:= ⟨n - 1,by omega⟩
 cases m with
 | zero => exact h1 e
 | succ m => rw [TG W sg (by omega)] at e; simp at e
theorem Vn (W:Nat) (cs:List Bool) (ds:List Int):∀ n,HU W cs ds n = H4 (sgC cs ds) W n
 | 0 => rfl
 | n + 1 => by rw [HU,H4,Vn W cs ds n]; rfl
def rV (w:Int):UInt8:= if w = 1 then 101 else if w = 2 then 110 else if w = 3 then 119 else if w = 4 then 115 else 35
def sgW (cs:List Bool) (ls:List Int) (k:Nat):UInt8:= if atb cs k then rV (ati ls k) else 46
def Vo (W T:Int) (cs:List Bool) (ls:List Int):List UInt8:= FG 47 (H4 (sgW cs ls) W.toNat T.toNat)
def aH (ls:List Int):Prop:= ∀ k:Int,0 ≤ k → k < ls.length → 0 ≤ ati ls k ∧ ati ls k ≤ 4
theorem aI {W T:Int} {cs:List Bool} {ls:List Int} (h:AR W T cs ls = true):aH ls:= by
 intro k h0 h1
 simp only [AR,Bool.and_eq_true,decide_eq_true_eq,CN] at h
 have:= h.2 k.toNat (by omega)
 rw [show ((k.toNat:Nat):Int) = k by omega] at this
 simp only [JP,decide_eq_true_eq] at this
 omega
theorem kB {W T:Int} {cs:List Bool} (ls:List Int) (h:Am W T cs = true):Vo W T cs ls ≠ []:= by
 simp only [Am,decide_eq_true_eq] at h
 exact dW _ (by omega) (by omega)
theorem kC {W T:Int} {cs:List Bool} {ds:List Int} (h:Am W T cs = true) (hd:B4 cs ds = true):TF W T cs ds ≠ []:= by
 rw [TF,if_pos (by rw [h,hd]; rfl),Vn]
 simp only [Am,decide_eq_true_eq] at h
 exact dW _ (by omega) (by omega)
theorem kD:∀ k:_root_.Fin 5,∀ s:_root_.Fin 100,∀ w:_root_.Fin 5,(if Dw ((k.val:Int),(s.val:Int),(w.val:Int)) then (decide ((Bu ((k.val:Int),(s.val:Int),(w.val:Int))).getLast? ≠ some 32) && decide ((Bu ((k.val:Int),(s.val:Int),(w.val:Int))).length ≤ 12)) else true) = true:= by decide +kernel
theorem go {d:Int × Int × Int} (h:Dw d = true):(Bu d).getLast? ≠ some 32 ∧ (Bu d).length ≤ 12:= by
 obtain ⟨k,s,w⟩:= d
 obtain ⟨k',s',w',rfl,rfl,rfl⟩:= RW h
 have:= kD k' s' w'
 rw [if_pos h] at this
 simpa using this
theorem kE (d:Int × Int × Int):(Bu d).length ≤ 12:= by
 cases h:Dw d with
 | true => exact (go h).2
 | false => rw [(Vj d).2 h]; simp
end Go.Proofs.Dev
