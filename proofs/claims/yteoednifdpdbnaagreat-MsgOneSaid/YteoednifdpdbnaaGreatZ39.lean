/- strings.Repeat, laid at this dump (it is proved once in the library, over whatever program). -/
import Derived.Shelf.Strings.Repeat
import Derived.Test.YteoednifdpdbnaaGreatZ04
import Derived.Test.YteoednifdpdbnaaGreatProg
namespace Go.Proofs.YteoednifdpdbnaaGreat
set_option linter.unusedVariables false
set_option linter.unusedSimpArgs false
open Go.RowKit
open Go.Shelf
def lays105_ren:Go.Shelf.Ren:=⟨fun | 105=>207 | 212=>245 | 99=>246 | 165=>247 | 166=>168 | 170=>170 | 169=>171 | 263=>263 | 264=>264 | 206=>265 | 240=>216 | 241=>266 | 276=>252 | 277=>271 | n=>n,fun | 9=>9 | 3=>3 | 4=>4 | 20=>20 | 0=>0 | 46=>169 | 109=>306 | 5=>5 | 72=>237 | 76=>240 | 51=>321 | 146=>322 | 53=>22 | 148=>304 | 70=>235 | 37=>97 | 75=>239 | 127=>287 | 164=>313 | 80=>243 | n=>n,fun | n=>n⟩
theorem lays105:Go.Proofs.Lays.n105 Tryz.prog lays105_ren:={
 mixed:=by kernel_rfl
 f99:=Tryz.func246.trans (congrArg some (by kernel_rfl))
 f105:=Tryz.func207.trans (congrArg some (by kernel_rfl))
 f165:=Tryz.func247.trans (congrArg some (by kernel_rfl))
 f166:=Tryz.func168.trans (congrArg some (by kernel_rfl))
 f169:=Tryz.func171.trans (congrArg some (by kernel_rfl))
 f170:=Tryz.func170.trans (congrArg some (by kernel_rfl))
 f206:=Tryz.func265.trans (congrArg some (by kernel_rfl))
 f212:=Tryz.func245.trans (congrArg some (by kernel_rfl))
 f240:=Tryz.func216.trans (congrArg some (by kernel_rfl))
 f241:=Tryz.func266.trans (congrArg some (by kernel_rfl))
 f263:=Tryz.func263.trans (congrArg some (by kernel_rfl))
 f264:=Tryz.func264.trans (congrArg some (by kernel_rfl))
 f276:=Tryz.func252.trans (congrArg some (by kernel_rfl))
 f277:=Tryz.func271.trans (congrArg some (by kernel_rfl))
 t0:=Tryz.underlying0
 a0:=Tryz.isAgg0
 z0:=Tryz.sizeOf0
 v0:=Tryz.zeroValue0
 t3:=Tryz.underlying3
 a3:=Tryz.isAgg3
 z3:=Tryz.sizeOf3
 v3:=Tryz.zeroValue3
 t4:=Tryz.underlying4
 a4:=Tryz.isAgg4
 z4:=Tryz.sizeOf4
 v4:=Tryz.zeroValue4
 t5:=Tryz.underlying5
 a5:=Tryz.isAgg5
 z5:=Tryz.sizeOf5
 v5:=Tryz.zeroValue5
 t9:=Tryz.underlying9
 a9:=Tryz.isAgg9
 z9:=Tryz.sizeOf9
 v9:=Tryz.zeroValue9
 t20:=Tryz.underlying20
 a20:=Tryz.isAgg20
 z20:=Tryz.sizeOf20
 v20:=Tryz.zeroValue20
 t37:=Tryz.underlying97
 a37:=Tryz.isAgg97
 z37:=Tryz.sizeOf97
 v37:=Tryz.zeroValue97
 t46:=Tryz.underlying169
 a46:=Tryz.isAgg169
 z46:=Tryz.sizeOf169
 v46:=Tryz.zeroValue169
 t51:=Tryz.underlying321
 a51:=Tryz.isAgg321
 z51:=Tryz.sizeOf321
 v51:=Tryz.zeroValue321
 t53:=Tryz.underlying22
 a53:=Tryz.isAgg22
 z53:=Tryz.sizeOf22
 v53:=Tryz.zeroValue22
 t70:=Tryz.underlying235
 a70:=Tryz.isAgg235
 z70:=Tryz.sizeOf235
 v70:=Tryz.zeroValue235
 t72:=Tryz.underlying237
 a72:=Tryz.isAgg237
 z72:=Tryz.sizeOf237
 v72:=Tryz.zeroValue237
 t75:=Tryz.underlying239
 a75:=Tryz.isAgg239
 z75:=Tryz.sizeOf239
 v75:=Tryz.zeroValue239
 t76:=Tryz.underlying240
 a76:=Tryz.isAgg240
 z76:=Tryz.sizeOf240
 v76:=Tryz.zeroValue240
 t109:=Tryz.underlying306
 a109:=Tryz.isAgg306
 z109:=Tryz.sizeOf306
 v109:=Tryz.zeroValue306
 t127:=Tryz.underlying287
 a127:=Tryz.isAgg287
 z127:=Tryz.sizeOf287
 v127:=Tryz.zeroValue287
 t146:=Tryz.underlying322
 a146:=Tryz.isAgg322
 z146:=Tryz.sizeOf322
 v146:=Tryz.zeroValue322
 t148:=Tryz.underlying304
 a148:=Tryz.isAgg304
 z148:=Tryz.sizeOf304
 v148:=Tryz.zeroValue304
 t164:=Tryz.underlying313
 a164:=Tryz.isAgg313
 z164:=Tryz.sizeOf313
 v164:=Tryz.zeroValue313 }
theorem qgb:Builder.Extra Tryz.prog lays105_ren:={
 sizeBuilder:=by kernel_rfl
 liesBuilder:=by kernel_rfl
 t5:=Tryz.underlying5
 a5:=Tryz.isAgg5
 z5:=Tryz.sizeOf5
 v5:=Tryz.zeroValue5
 infoByte:=by kernel_rfl
 cellsByte:=by kernel_rfl
 sizeByte:=by kernel_rfl
 neB5:=by decide }
open Go.RowKit Go.Lib in
theorem qik (s:ByteArray) (c:Nat) (w:World) (hc:c≤9223372036854775807) (hlen:s.size * c≤140737488355328) :
  Calls Tryz.prog 207 #[.string s,.int .i64 c] w fun e w'=>e=.returned (.string ⟨(Lib.repeatL s.data.toList c).toArray⟩)∧Below w.heap.size w w':=Any.strings_Repeat lays105 qgb s c w hc hlen
theorem qgq (c:UInt8):∀ n,Go.Lib.repeatL [c] n=List.replicate n c
 | 0=>rfl
 | n+1=>by rw [Go.Lib.repeatL,qgq c n,List.replicate_succ];rfl
open Go.RowKit in
theorem qiz (c:UInt8) (n:Nat) (hn:n≤1000) (w:World):Calls Tryz.prog 207 #[.string (bs [c]),.int .i64 (n:Int)] w fun e w'=>e=.returned (.string (bs (List.replicate n c)))∧Below w.heap.size w w':=by
 have h:=qik (bs [c]) n w (by omega) (by rw [size_bs];simp;omega)
 rw [data_bs,qgq c n] at h
 exact h
end Go.Proofs.YteoednifdpdbnaaGreat
