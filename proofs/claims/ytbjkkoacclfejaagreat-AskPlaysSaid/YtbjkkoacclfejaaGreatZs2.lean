/-
 Part 2: Ty St2 OpG Rw Fr Au Vd Vc Fs St3 Mac Nm Base WMay WLower WLabels WName SRow Cmp Pd Qd.
-/
import Derived.Test.YtbjkkoacclfejaaGreatRows
import Derived.Test.YtbjkkoacclfejaaGreatZs1
import Derived.ProofKit
import Derived.OpenShut
import Derived.ShutString
import Derived.ChangeOld
import Derived.Deep.Slices
import Derived.Deep.Strs
import Derived.WalkKit
import Derived.WalkSpells
import Derived.WalkLawsBesides
import Derived.Lib.Hide
import Derived.Lib.ConvBytes
import Derived.Lib.QuietBelow
import Derived.BigQuiet
import Derived.StillTailTactics
import Derived.Deep.DeepCutAuto
import Derived.Lib.Strings
import Derived.Lib.IndexBytes
import Derived.Lib.Bytealg
set_option maxHeartbeats 400000
set_option linter.unusedVariables false
set_option linter.unusedSimpArgs false
namespace Go.Proofs.YtbjkkoacclfejaaGreat
open Go.RowKit
theorem jb : Tryz.prog.follows .mixedOrders = true := by kernel_rfl
instance akJ : PlC Tryz.prog 2 := ⟨by kernel_rfl⟩
instance aj2 : OnC Tryz.prog 2 := ⟨by kernel_rfl⟩
instance akK : PlC Tryz.prog 3 := ⟨by kernel_rfl⟩
instance aj3 : OnC Tryz.prog 3 := ⟨by kernel_rfl⟩
instance akL : PlC Tryz.prog 4 := ⟨by kernel_rfl⟩
instance aj4 : OnC Tryz.prog 4 := ⟨by kernel_rfl⟩
instance akM : PlC Tryz.prog 5 := ⟨by kernel_rfl⟩
instance aj5 : OnC Tryz.prog 5 := ⟨by kernel_rfl⟩
instance akN : PlC Tryz.prog 9 := ⟨by kernel_rfl⟩
instance aj6 : PlC Tryz.prog 22 := ⟨by kernel_rfl⟩
instance aip : ZeC Tryz.prog 24 (.agg #[(.string (bs [])), (.int .u16 0), (.int .u16 0)]) := ⟨by kernel_rfl⟩
instance aj7 : StC Tryz.prog 24 3 := ⟨by kernel_rfl⟩
instance agV : FldC Tryz.prog 24 0 0 := ⟨by kernel_rfl⟩
instance agW : FldC Tryz.prog 24 1 1 := ⟨by kernel_rfl⟩
instance agX : FldC Tryz.prog 24 2 2 := ⟨by kernel_rfl⟩
instance aiq : ZeC Tryz.prog 26 (.agg #[(.string (bs [])), (.int .u8 0), (.int .u16 0)]) := ⟨by kernel_rfl⟩
instance aj8 : StC Tryz.prog 26 3 := ⟨by kernel_rfl⟩
instance agY : FldC Tryz.prog 26 0 0 := ⟨by kernel_rfl⟩
instance agZ : FldC Tryz.prog 26 1 1 := ⟨by kernel_rfl⟩
instance ag0 : FldC Tryz.prog 26 2 2 := ⟨by kernel_rfl⟩
instance aj9 : PlC Tryz.prog 27 := ⟨by kernel_rfl⟩
instance aiV : OnC Tryz.prog 27 := ⟨by kernel_rfl⟩
instance aiW : EtC Tryz.prog 27 3 1 8 (.int .i64 0) := etM (by kernel_rfl) Tryz.underlying27 rfl (by decide)
instance aka : PlC Tryz.prog 28 := ⟨by kernel_rfl⟩
instance aiX : EtC Tryz.prog 28 26 3 24 (.agg #[(.string (bs [])), (.int .u8 0), (.int .u16 0)]) := etM (by kernel_rfl) Tryz.underlying28 rfl (by decide)
instance air : ZeC Tryz.prog 30 (.agg #[(.int .i64 0), (.int .i64 0), (.int .i64 0), (.int .i64 0), (.int .i64 0), (.int .i64 0), (.int .i64 0), (.int .i64 0), (.int .i64 0), (.int .i64 0), (.int .i64 0), (.int .i64 0), (.slice none 0 0)]) := ⟨by kernel_rfl⟩
instance akb : StC Tryz.prog 30 13 := ⟨by kernel_rfl⟩
instance ag1 : FldC Tryz.prog 30 0 0 := ⟨by kernel_rfl⟩
instance ag2 : FldC Tryz.prog 30 1 1 := ⟨by kernel_rfl⟩
instance ag3 : FldC Tryz.prog 30 2 2 := ⟨by kernel_rfl⟩
instance ag4 : FldC Tryz.prog 30 3 3 := ⟨by kernel_rfl⟩
instance ag5 : FldC Tryz.prog 30 4 4 := ⟨by kernel_rfl⟩
instance ag6 : FldC Tryz.prog 30 5 5 := ⟨by kernel_rfl⟩
instance ag7 : FldC Tryz.prog 30 6 6 := ⟨by kernel_rfl⟩
instance ag8 : FldC Tryz.prog 30 7 7 := ⟨by kernel_rfl⟩
instance ag9 : FldC Tryz.prog 30 8 8 := ⟨by kernel_rfl⟩
instance aha : FldC Tryz.prog 30 9 9 := ⟨by kernel_rfl⟩
instance afy : FldC Tryz.prog 30 10 10 := ⟨by kernel_rfl⟩
instance afz : FldC Tryz.prog 30 11 11 := ⟨by kernel_rfl⟩
instance afA : FldC Tryz.prog 30 12 12 := ⟨by kernel_rfl⟩
instance akc : StC Tryz.prog 32 21 := ⟨by kernel_rfl⟩
instance ahb : FldC Tryz.prog 32 0 0 := ⟨by kernel_rfl⟩
instance ahc : FldC Tryz.prog 32 1 3 := ⟨by kernel_rfl⟩
instance ahd : FldC Tryz.prog 32 2 6 := ⟨by kernel_rfl⟩
instance ahe : FldC Tryz.prog 32 3 7 := ⟨by kernel_rfl⟩
instance ahf : FldC Tryz.prog 32 4 20 := ⟨by kernel_rfl⟩
instance akd : PlC Tryz.prog 38 := ⟨by kernel_rfl⟩
instance aiY : OnC Tryz.prog 38 := ⟨by kernel_rfl⟩
instance aiZ : EtC Tryz.prog 38 122 5 48 (.agg #[(.string (bs [])), (.int .u16 0), (.int .u16 0), (.int .u32 0), (.slice none 0 0)]) := etM (by kernel_rfl) Tryz.underlying38 rfl (by decide)
instance ais : ZeC Tryz.prog 40 (.agg #[(.int .u8 0), (.slice none 0 0), (.slice none 0 0)]) := ⟨by kernel_rfl⟩
instance ake : StC Tryz.prog 40 3 := ⟨by kernel_rfl⟩
instance ahg : FldC Tryz.prog 40 0 0 := ⟨by kernel_rfl⟩
instance ahh : FldC Tryz.prog 40 1 1 := ⟨by kernel_rfl⟩
instance ahi : FldC Tryz.prog 40 2 2 := ⟨by kernel_rfl⟩
instance akf : PlC Tryz.prog 41 := ⟨by kernel_rfl⟩
instance ai0 : OnC Tryz.prog 41 := ⟨by kernel_rfl⟩
instance ait : ZeC Tryz.prog 43 (.agg #[(.slice none 0 0), (.slice none 0 0), (.bool false), (.bool false), (.int .u8 0), (.slice none 0 0), (.slice none 0 0), (.int .u32 0), (.slice none 0 0), (.slice none 0 0)]) := ⟨by kernel_rfl⟩
instance akg : StC Tryz.prog 43 10 := ⟨by kernel_rfl⟩
instance ahj : FldC Tryz.prog 43 0 0 := ⟨by kernel_rfl⟩
instance ahk : FldC Tryz.prog 43 1 1 := ⟨by kernel_rfl⟩
instance ahl : FldC Tryz.prog 43 2 2 := ⟨by kernel_rfl⟩
instance ahm : FldC Tryz.prog 43 3 3 := ⟨by kernel_rfl⟩
instance ahn : FldC Tryz.prog 43 4 4 := ⟨by kernel_rfl⟩
instance aho : FldC Tryz.prog 43 5 7 := ⟨by kernel_rfl⟩
instance ahp : FldC Tryz.prog 43 6 8 := ⟨by kernel_rfl⟩
instance ahq : FldC Tryz.prog 43 7 9 := ⟨by kernel_rfl⟩
instance aiu : ZeC Tryz.prog 47 (.agg #[(.int .i64 0), (.int .i64 0), (.int .i64 0), (.int .i64 0), (.int .i64 0), (.int .i64 0), (.int .i64 0), (.int .i64 0), (.int .i64 0)]) := ⟨by kernel_rfl⟩
instance ai1 : ArrC Tryz.prog 47 (9, 1) := ⟨by kernel_rfl⟩
instance aiv : ZeC Tryz.prog 48 (.agg #[(.bool false), (.bool false), (.bool false), (.bool false), (.bool false), (.bool false), (.bool false), (.bool false), (.bool false)]) := ⟨by kernel_rfl⟩
instance ai2 : ArrC Tryz.prog 48 (9, 1) := ⟨by kernel_rfl⟩
instance akh : PlC Tryz.prog 60 := ⟨by kernel_rfl⟩
instance ai3 : OnC Tryz.prog 60 := ⟨by kernel_rfl⟩
instance ai4 : EtC Tryz.prog 60 65 5 72 (.agg #[(.int .i64 0), (.int .u8 0), (.slice none 0 0), (.slice none 0 0), (.int .u32 0)]) := etM (by kernel_rfl) Tryz.underlying60 rfl (by decide)
instance aiw : ZeC Tryz.prog 65 (.agg #[(.int .i64 0), (.int .u8 0), (.slice none 0 0), (.slice none 0 0), (.int .u32 0)]) := ⟨by kernel_rfl⟩
instance aki : StC Tryz.prog 65 5 := ⟨by kernel_rfl⟩
instance ahr : FldC Tryz.prog 65 0 0 := ⟨by kernel_rfl⟩
instance ahs : FldC Tryz.prog 65 1 1 := ⟨by kernel_rfl⟩
instance aht : FldC Tryz.prog 65 2 4 := ⟨by kernel_rfl⟩
instance ai5 : EtC Tryz.prog 67 69 7 88 (.agg #[(.int .u8 0), (.int .i64 0), (.int .u8 0), (.slice none 0 0), (.slice none 0 0), (.int .u32 0), (.int .i64 0)]) := etM (by kernel_rfl) Tryz.underlying67 rfl (by decide)
instance akj : StC Tryz.prog 69 7 := ⟨by kernel_rfl⟩
instance ahu : FldC Tryz.prog 69 0 0 := ⟨by kernel_rfl⟩
instance ahv : FldC Tryz.prog 69 1 1 := ⟨by kernel_rfl⟩
instance ahw : FldC Tryz.prog 69 2 2 := ⟨by kernel_rfl⟩
instance ahx : FldC Tryz.prog 69 3 5 := ⟨by kernel_rfl⟩
instance ahy : FldC Tryz.prog 69 4 6 := ⟨by kernel_rfl⟩
instance akk : PlC Tryz.prog 79 := ⟨by kernel_rfl⟩
instance ai6 : OnC Tryz.prog 79 := ⟨by kernel_rfl⟩
instance akl : PlC Tryz.prog 80 := ⟨by kernel_rfl⟩
instance ai7 : OnC Tryz.prog 80 := ⟨by kernel_rfl⟩
instance aix : ZeC Tryz.prog 82 (.agg #[(.string (bs [])), (.int .u16 0), (.int .u16 0), (.int .u8 0), (.int .i64 0), (.pointer none), (.pointer none), (.int .i64 0), (.int .i64 0), (.bool false)]) := ⟨by kernel_rfl⟩
instance akm : StC Tryz.prog 82 10 := ⟨by kernel_rfl⟩
instance ahz : FldC Tryz.prog 82 0 0 := ⟨by kernel_rfl⟩
instance ahA : FldC Tryz.prog 82 1 3 := ⟨by kernel_rfl⟩
instance ahB : FldC Tryz.prog 82 2 4 := ⟨by kernel_rfl⟩
instance ahC : FldC Tryz.prog 82 3 5 := ⟨by kernel_rfl⟩
instance ahD : FldC Tryz.prog 82 4 6 := ⟨by kernel_rfl⟩
instance ahE : FldC Tryz.prog 82 5 7 := ⟨by kernel_rfl⟩
instance ahF : FldC Tryz.prog 82 6 8 := ⟨by kernel_rfl⟩
instance ahG : FldC Tryz.prog 82 7 9 := ⟨by kernel_rfl⟩
instance akn : PlC Tryz.prog 95 := ⟨by kernel_rfl⟩
instance ai8 : OnC Tryz.prog 95 := ⟨by kernel_rfl⟩
instance ako : PlC Tryz.prog 98 := ⟨by kernel_rfl⟩
instance ai9 : OnC Tryz.prog 98 := ⟨by kernel_rfl⟩
instance ahH : ZeC Tryz.prog 102 (.agg #[(.string (bs [])), (.int .u16 0), (.int .u16 0), .nilIface, (.int .i64 0), (.pointer none), (.pointer none), (.int .i64 0), (.int .i64 0), (.bool false)]) := ⟨by kernel_rfl⟩
instance aja : StC Tryz.prog 102 10 := ⟨by kernel_rfl⟩
instance afB : FldC Tryz.prog 102 0 0 := ⟨by kernel_rfl⟩
instance afC : FldC Tryz.prog 102 1 3 := ⟨by kernel_rfl⟩
instance afD : FldC Tryz.prog 102 2 4 := ⟨by kernel_rfl⟩
instance afE : FldC Tryz.prog 102 3 5 := ⟨by kernel_rfl⟩
instance afF : FldC Tryz.prog 102 4 6 := ⟨by kernel_rfl⟩
instance afG : FldC Tryz.prog 102 5 7 := ⟨by kernel_rfl⟩
instance afH : FldC Tryz.prog 102 6 8 := ⟨by kernel_rfl⟩
instance afI : FldC Tryz.prog 102 7 9 := ⟨by kernel_rfl⟩
instance ahI : ZeC Tryz.prog 107 (.agg #[(.slice none 0 0), (.slice none 0 0), (.bool false), (.bool false), (.int .u8 0), (.slice none 0 0), (.slice none 0 0), (.int .u32 0), (.slice none 0 0), (.slice none 0 0)]) := ⟨by kernel_rfl⟩
instance ajb : StC Tryz.prog 107 10 := ⟨by kernel_rfl⟩
instance afJ : FldC Tryz.prog 107 0 0 := ⟨by kernel_rfl⟩
instance afK : FldC Tryz.prog 107 1 1 := ⟨by kernel_rfl⟩
instance afL : FldC Tryz.prog 107 2 2 := ⟨by kernel_rfl⟩
instance afM : FldC Tryz.prog 107 3 3 := ⟨by kernel_rfl⟩
instance afN : FldC Tryz.prog 107 4 4 := ⟨by kernel_rfl⟩
instance afO : FldC Tryz.prog 107 5 7 := ⟨by kernel_rfl⟩
instance afP : FldC Tryz.prog 107 6 8 := ⟨by kernel_rfl⟩
instance afQ : FldC Tryz.prog 107 7 9 := ⟨by kernel_rfl⟩
instance ajc : PlC Tryz.prog 116 := ⟨by kernel_rfl⟩
instance aiy : OnC Tryz.prog 116 := ⟨by kernel_rfl⟩
instance aiz : EtC Tryz.prog 116 177 5 40 (.agg #[(.string (bs [])), (.int .u16 0), (.int .u16 0), (.int .u32 0), (.string (bs []))]) := etM (by kernel_rfl) Tryz.underlying116 rfl (by decide)
instance ahJ : ZeC Tryz.prog 117 (.agg #[(.slice none 0 0), (.slice none 0 0)]) := ⟨by kernel_rfl⟩
instance aiA : ArrC Tryz.prog 117 (2, 1) := ⟨by kernel_rfl⟩
instance aiB : EtC Tryz.prog 118 38 1 24 (.slice none 0 0) := etM (by kernel_rfl) Tryz.underlying118 rfl (by decide)
instance ajd : PlC Tryz.prog 120 := ⟨by kernel_rfl⟩
instance aiC : OnC Tryz.prog 120 := ⟨by kernel_rfl⟩
instance aiD : EtC Tryz.prog 120 9 1 16 (.string (bs [])) := etM (by kernel_rfl) Tryz.underlying120 rfl (by decide)
instance ahK : ZeC Tryz.prog 122 (.agg #[(.string (bs [])), (.int .u16 0), (.int .u16 0), (.int .u32 0), (.slice none 0 0)]) := ⟨by kernel_rfl⟩
instance aje : StC Tryz.prog 122 5 := ⟨by kernel_rfl⟩
instance afR : FldC Tryz.prog 122 0 0 := ⟨by kernel_rfl⟩
instance afS : FldC Tryz.prog 122 1 1 := ⟨by kernel_rfl⟩
instance afT : FldC Tryz.prog 122 2 2 := ⟨by kernel_rfl⟩
instance afU : FldC Tryz.prog 122 3 3 := ⟨by kernel_rfl⟩
instance afV : FldC Tryz.prog 122 4 4 := ⟨by kernel_rfl⟩
instance aeQ : FldC Tryz.prog 126 10 10 := ⟨by kernel_rfl⟩
instance aiE : EtC Tryz.prog 127 24 3 24 (.agg #[(.string (bs [])), (.int .u16 0), (.int .u16 0)]) := etM (by kernel_rfl) Tryz.underlying127 rfl (by decide)
instance afW : FldC Tryz.prog 132 0 0 := ⟨by kernel_rfl⟩
instance afX : FldC Tryz.prog 132 2 12 := ⟨by kernel_rfl⟩
instance afY : FldC Tryz.prog 132 3 13 := ⟨by kernel_rfl⟩
instance ajf : PlC Tryz.prog 144 := ⟨by kernel_rfl⟩
instance aiF : OnC Tryz.prog 144 := ⟨by kernel_rfl⟩
instance aiG : EtC Tryz.prog 144 148 4 32 (.agg #[(.int .i64 0), (.int .i64 0), (.int .i64 0), (.bool false)]) := etM (by kernel_rfl) Tryz.underlying144 rfl (by decide)
instance ahL : ZeC Tryz.prog 146 (.agg #[(.slice none 0 0), (.int .i64 0), (.int .i64 0), (.int .i64 0), (.int .i64 0), (.int .i64 0), (.int .i64 0), (.int .i64 0), (.bool false)]) := ⟨by kernel_rfl⟩
instance ajg : StC Tryz.prog 146 9 := ⟨by kernel_rfl⟩
instance afZ : FldC Tryz.prog 146 0 0 := ⟨by kernel_rfl⟩
instance af0 : FldC Tryz.prog 146 1 1 := ⟨by kernel_rfl⟩
instance af1 : FldC Tryz.prog 146 2 2 := ⟨by kernel_rfl⟩
instance af2 : FldC Tryz.prog 146 3 3 := ⟨by kernel_rfl⟩
instance af3 : FldC Tryz.prog 146 4 4 := ⟨by kernel_rfl⟩
instance af4 : FldC Tryz.prog 146 5 5 := ⟨by kernel_rfl⟩
instance af5 : FldC Tryz.prog 146 6 6 := ⟨by kernel_rfl⟩
instance af6 : FldC Tryz.prog 146 7 7 := ⟨by kernel_rfl⟩
instance af7 : FldC Tryz.prog 146 8 8 := ⟨by kernel_rfl⟩
instance af8 : FldC Tryz.prog 148 0 0 := ⟨by kernel_rfl⟩
instance af9 : FldC Tryz.prog 148 1 1 := ⟨by kernel_rfl⟩
instance aga : FldC Tryz.prog 148 2 2 := ⟨by kernel_rfl⟩
instance agb : FldC Tryz.prog 148 3 3 := ⟨by kernel_rfl⟩
instance aiH : EtC Tryz.prog 149 5 1 1 (.int .u8 0) := etM (by kernel_rfl) Tryz.underlying149 rfl (by decide)
instance agc : FldC Tryz.prog 154 0 0 := ⟨by kernel_rfl⟩
instance ajh : PlC Tryz.prog 156 := ⟨by kernel_rfl⟩
instance aiI : OnC Tryz.prog 156 := ⟨by kernel_rfl⟩
instance aiJ : EtC Tryz.prog 156 160 4 32 (.agg #[(.int .i64 0), (.int .i64 0), (.int .i64 0), (.bool false)]) := etM (by kernel_rfl) Tryz.underlying156 rfl (by decide)
instance ahM : ZeC Tryz.prog 158 (.agg #[(.slice none 0 0), (.int .i64 0), (.int .i64 0), (.int .i64 0), (.int .i64 0), (.int .i64 0), (.int .i64 0), (.int .i64 0), (.int .i64 0), (.bool false), (.bool false)]) := ⟨by kernel_rfl⟩
instance aji : StC Tryz.prog 158 11 := ⟨by kernel_rfl⟩
instance agd : FldC Tryz.prog 158 0 0 := ⟨by kernel_rfl⟩
instance age : FldC Tryz.prog 158 1 1 := ⟨by kernel_rfl⟩
instance agf : FldC Tryz.prog 158 2 2 := ⟨by kernel_rfl⟩
instance agh : FldC Tryz.prog 158 3 3 := ⟨by kernel_rfl⟩
instance agi : FldC Tryz.prog 158 4 4 := ⟨by kernel_rfl⟩
instance agj : FldC Tryz.prog 158 5 5 := ⟨by kernel_rfl⟩
instance agk : FldC Tryz.prog 158 6 6 := ⟨by kernel_rfl⟩
instance agl : FldC Tryz.prog 158 7 7 := ⟨by kernel_rfl⟩
instance agm : FldC Tryz.prog 158 8 8 := ⟨by kernel_rfl⟩
instance agn : FldC Tryz.prog 158 9 9 := ⟨by kernel_rfl⟩
instance aeR : FldC Tryz.prog 158 10 10 := ⟨by kernel_rfl⟩
instance ahN : ZeC Tryz.prog 160 (.agg #[(.int .i64 0), (.int .i64 0), (.int .i64 0), (.bool false)]) := ⟨by kernel_rfl⟩
instance ajj : StC Tryz.prog 160 4 := ⟨by kernel_rfl⟩
instance ago : FldC Tryz.prog 160 0 0 := ⟨by kernel_rfl⟩
instance agp : FldC Tryz.prog 160 1 1 := ⟨by kernel_rfl⟩
instance agq : FldC Tryz.prog 160 2 2 := ⟨by kernel_rfl⟩
instance agr : FldC Tryz.prog 160 3 3 := ⟨by kernel_rfl⟩
instance ahO : ZeC Tryz.prog 162 (.agg #[(.int .u8 0), (.int .i64 0)]) := ⟨by kernel_rfl⟩
instance ajk : StC Tryz.prog 162 2 := ⟨by kernel_rfl⟩
instance ags : FldC Tryz.prog 162 0 0 := ⟨by kernel_rfl⟩
instance agt : FldC Tryz.prog 162 1 1 := ⟨by kernel_rfl⟩
instance aiK : ArrC Tryz.prog 163 (9, 2) := ⟨by kernel_rfl⟩
instance agu : FldC Tryz.prog 165 0 0 := ⟨by kernel_rfl⟩
instance agv : FldC Tryz.prog 165 1 1 := ⟨by kernel_rfl⟩
instance agw : FldC Tryz.prog 165 2 19 := ⟨by kernel_rfl⟩
instance ahP : ZeC Tryz.prog 167 (.agg #[(.int .u8 0), (.slice none 0 0), (.slice none 0 0), (.int .u32 0), (.slice none 0 0), (.slice none 0 0)]) := ⟨by kernel_rfl⟩
instance ajl : StC Tryz.prog 167 6 := ⟨by kernel_rfl⟩
instance agx : FldC Tryz.prog 167 0 0 := ⟨by kernel_rfl⟩
instance agy : FldC Tryz.prog 167 1 3 := ⟨by kernel_rfl⟩
instance agz : FldC Tryz.prog 167 2 4 := ⟨by kernel_rfl⟩
instance agA : FldC Tryz.prog 167 3 5 := ⟨by kernel_rfl⟩
instance ahQ : ZeC Tryz.prog 177 (.agg #[(.string (bs [])), (.int .u16 0), (.int .u16 0), (.int .u32 0), (.string (bs []))]) := ⟨by kernel_rfl⟩
instance ajm : StC Tryz.prog 177 5 := ⟨by kernel_rfl⟩
instance agC : FldC Tryz.prog 177 0 0 := ⟨by kernel_rfl⟩
instance agD : FldC Tryz.prog 177 1 1 := ⟨by kernel_rfl⟩
instance agE : FldC Tryz.prog 177 2 2 := ⟨by kernel_rfl⟩
instance agF : FldC Tryz.prog 177 3 3 := ⟨by kernel_rfl⟩
instance agG : FldC Tryz.prog 177 4 4 := ⟨by kernel_rfl⟩
instance aiL : EtC Tryz.prog 185 187 11 128 (.agg #[(.int .i64 0), (.int .u8 0), (.slice none 0 0), (.slice none 0 0), (.int .u32 0), (.string (bs [])), (.int .u16 0), (.int .u16 0), (.int .u32 0), (.slice none 0 0), (.bool false)]) := etM (by kernel_rfl) Tryz.underlying185 rfl (by decide)
instance ahR : ZeC Tryz.prog 187 (.agg #[(.int .i64 0), (.int .u8 0), (.slice none 0 0), (.slice none 0 0), (.int .u32 0), (.string (bs [])), (.int .u16 0), (.int .u16 0), (.int .u32 0), (.slice none 0 0), (.bool false)]) := ⟨by kernel_rfl⟩
instance ajn : StC Tryz.prog 187 11 := ⟨by kernel_rfl⟩
instance agH : FldC Tryz.prog 187 0 0 := ⟨by kernel_rfl⟩
instance agI : FldC Tryz.prog 187 1 5 := ⟨by kernel_rfl⟩
instance agJ : FldC Tryz.prog 187 2 10 := ⟨by kernel_rfl⟩
instance ajo : PlC Tryz.prog 198 := ⟨by kernel_rfl⟩
instance aiM : OnC Tryz.prog 198 := ⟨by kernel_rfl⟩
instance aiN : EtC Tryz.prog 198 225 6 80 (.agg #[(.int .i64 0), (.int .u8 0), (.slice none 0 0), (.slice none 0 0), (.int .u32 0), (.bool false)]) := etM (by kernel_rfl) Tryz.underlying198 rfl (by decide)
instance agK : FldC Tryz.prog 200 0 0 := ⟨by kernel_rfl⟩
instance agL : FldC Tryz.prog 200 1 1 := ⟨by kernel_rfl⟩
instance ajp : StC Tryz.prog 202 5 := ⟨by kernel_rfl⟩
instance agM : FldC Tryz.prog 202 0 0 := ⟨by kernel_rfl⟩
instance agN : FldC Tryz.prog 202 1 1 := ⟨by kernel_rfl⟩
instance agO : FldC Tryz.prog 202 2 4 := ⟨by kernel_rfl⟩
instance ajq : StC Tryz.prog 225 6 := ⟨by kernel_rfl⟩
instance agP : FldC Tryz.prog 225 0 0 := ⟨by kernel_rfl⟩
instance agQ : FldC Tryz.prog 225 1 5 := ⟨by kernel_rfl⟩
instance aiO : EtC Tryz.prog 229 233 2 24 (.agg #[(.string (bs [])), (.bool false)]) := etM (by kernel_rfl) Tryz.underlying229 rfl (by decide)
instance agR : FldC Tryz.prog 233 0 0 := ⟨by kernel_rfl⟩
instance agS : FldC Tryz.prog 233 1 1 := ⟨by kernel_rfl⟩
instance aiP : EtC Tryz.prog 239 202 5 72 (.agg #[(.int .i64 0), (.int .u8 0), (.slice none 0 0), (.slice none 0 0), (.int .u32 0)]) := etM (by kernel_rfl) Tryz.underlying239 rfl (by decide)
theorem KG (x0 : ByteArray) (x1 : Int) (x2 : Int) : Built Tryz.prog 24 [(0, .string x0), (1, .int .u16 x1), (2, .int .u16 x2)] (.agg #[.string x0, .int .u16 x1, .int .u16 x2]) := ⟨fun w => by kernel_rfl⟩
theorem UN (x0 : ByteArray) (x1 : Int) : Built Tryz.prog 26 [(0, .string x0), (1, .int .u8 x1)] (.agg #[.string x0, .int .u8 x1, (.int .u16 0)]) := ⟨fun w => by kernel_rfl⟩
theorem qv (x0 : Int) (x1 : Int) (x2 : Int) (x3 : Int) (x4 : Int) (x5 : Int) (x6 : Int) (x7 : Int) (x8 : Int) (x9 : Int) : Built Tryz.prog 30 [(0, .int .i64 x0), (1, .int .i64 x1), (2, .int .i64 x2), (3, .int .i64 x3), (4, .int .i64 x4), (5, .int .i64 x5), (6, .int .i64 x6), (8, .int .i64 x7), (9, .int .i64 x8), (11, .int .i64 x9)] (.agg #[.int .i64 x0, .int .i64 x1, .int .i64 x2, .int .i64 x3, .int .i64 x4, .int .i64 x5, .int .i64 x6, (.int .i64 0), .int .i64 x7, .int .i64 x8, (.int .i64 0), .int .i64 x9, (.slice none 0 0)]) := ⟨fun w => by kernel_rfl⟩
theorem j8  : Built Tryz.prog 40 [] (.agg #[(.int .u8 0), (.slice none 0 0), (.slice none 0 0)]) := ⟨fun w => by kernel_rfl⟩
theorem ZJ (x0 : Int) : Built Tryz.prog 40 [(0, .int .u8 x0)] (.agg #[.int .u8 x0, (.slice none 0 0), (.slice none 0 0)]) := ⟨fun w => by kernel_rfl⟩
theorem UO (x0 : Int) (x1 : Option Addr) (m1 c1 : Nat) : Built Tryz.prog 40 [(0, .int .u8 x0), (1, .slice x1 m1 c1)] (.agg #[.int .u8 x0, .slice x1 m1 c1, (.slice none 0 0)]) := ⟨fun w => by kernel_rfl⟩
theorem yY (x0 : Int) (x1 : Option Addr) (m1 c1 : Nat) (x2 : Option Addr) (m2 c2 : Nat) : Built Tryz.prog 40 [(0, .int .u8 x0), (1, .slice x1 m1 c1), (2, .slice x2 m2 c2)] (.agg #[.int .u8 x0, .slice x1 m1 c1, .slice x2 m2 c2]) := ⟨fun w => by kernel_rfl⟩
theorem VD (x0 : Option Addr) (m0 c0 : Nat) : Built Tryz.prog 40 [(1, .slice x0 m0 c0)] (.agg #[(.int .u8 0), .slice x0 m0 c0, (.slice none 0 0)]) := ⟨fun w => by kernel_rfl⟩
theorem yy  : Built Tryz.prog 43 [] (.agg #[(.slice none 0 0), (.slice none 0 0), (.bool false), (.bool false), (.int .u8 0), (.slice none 0 0), (.slice none 0 0), (.int .u32 0), (.slice none 0 0), (.slice none 0 0)]) := ⟨fun w => by kernel_rfl⟩
theorem Qt (x0 : Option Addr) (m0 c0 : Nat) : Built Tryz.prog 43 [(0, .slice x0 m0 c0)] (.agg #[.slice x0 m0 c0, (.slice none 0 0), (.bool false), (.bool false), (.int .u8 0), (.slice none 0 0), (.slice none 0 0), (.int .u32 0), (.slice none 0 0), (.slice none 0 0)]) := ⟨fun w => by kernel_rfl⟩
theorem ZK (x0 : Bool) : Built Tryz.prog 43 [(2, .bool x0)] (.agg #[(.slice none 0 0), (.slice none 0 0), .bool x0, (.bool false), (.int .u8 0), (.slice none 0 0), (.slice none 0 0), (.int .u32 0), (.slice none 0 0), (.slice none 0 0)]) := ⟨fun w => by kernel_rfl⟩
theorem uT (x0 : Bool) (x1 : Bool) (x2 x3 x4 : Value) (x5 : Int) (x6 : Option Addr) (m6 c6 : Nat) (x7 : Option Addr) (m7 c7 : Nat) : Built Tryz.prog 43 [(2, .bool x0), (3, .bool x1), (4, .agg #[x2, x3, x4]), (5, .int .u32 x5), (6, .slice x6 m6 c6), (7, .slice x7 m7 c7)] (.agg #[(.slice none 0 0), (.slice none 0 0), .bool x0, .bool x1, x2, x3, x4, .int .u32 x5, .slice x6 m6 c6, .slice x7 m7 c7]) := ⟨fun w => by kernel_rfl⟩
theorem ue (x0 : Int) (x1 x2 x3 : Value) (x4 : Int) : Built Tryz.prog 65 [(0, .int .i64 x0), (1, .agg #[x1, x2, x3]), (2, .int .u32 x4)] (.agg #[.int .i64 x0, x1, x2, x3, .int .u32 x4]) := ⟨fun w => by kernel_rfl⟩
theorem Qk (x0 x1 x2 : Value) (x3 : Int) (x4 : Int) (x5 : Int) (x6 : Int) : Built Tryz.prog 82 [(0, .agg #[x0, x1, x2]), (1, .int .u8 x3), (2, .int .i64 x4), (5, .int .i64 x5), (6, .int .i64 x6)] (.agg #[x0, x1, x2, .int .u8 x3, .int .i64 x4, (.pointer none), (.pointer none), .int .i64 x5, .int .i64 x6, (.bool false)]) := ⟨fun w => by kernel_rfl⟩
theorem adp  : Built Tryz.prog 107 [] (.agg #[(.slice none 0 0), (.slice none 0 0), (.bool false), (.bool false), (.int .u8 0), (.slice none 0 0), (.slice none 0 0), (.int .u32 0), (.slice none 0 0), (.slice none 0 0)]) := ⟨fun w => by kernel_rfl⟩
theorem abu (x0 : Option Addr) (m0 c0 : Nat) : Built Tryz.prog 107 [(0, .slice x0 m0 c0)] (.agg #[.slice x0 m0 c0, (.slice none 0 0), (.bool false), (.bool false), (.int .u8 0), (.slice none 0 0), (.slice none 0 0), (.int .u32 0), (.slice none 0 0), (.slice none 0 0)]) := ⟨fun w => by kernel_rfl⟩
theorem YL (x0 : Option Addr) (m0 c0 : Nat) (x1 : Option Addr) (m1 c1 : Nat) : Built Tryz.prog 107 [(1, .slice x0 m0 c0), (0, .slice x1 m1 c1)] (.agg #[.slice x1 m1 c1, .slice x0 m0 c0, (.bool false), (.bool false), (.int .u8 0), (.slice none 0 0), (.slice none 0 0), (.int .u32 0), (.slice none 0 0), (.slice none 0 0)]) := ⟨fun w => by kernel_rfl⟩
theorem abv (x0 : Bool) : Built Tryz.prog 107 [(2, .bool x0)] (.agg #[(.slice none 0 0), (.slice none 0 0), .bool x0, (.bool false), (.int .u8 0), (.slice none 0 0), (.slice none 0 0), (.int .u32 0), (.slice none 0 0), (.slice none 0 0)]) := ⟨fun w => by kernel_rfl⟩
theorem ub  : Built Tryz.prog 122 [] (.agg #[(.string (bs [])), (.int .u16 0), (.int .u16 0), (.int .u32 0), (.slice none 0 0)]) := ⟨fun w => by kernel_rfl⟩
theorem Jl (x0 : ByteArray) (x1 : Int) (x2 : Int) : Built Tryz.prog 122 [(0, .string x0), (1, .int .u16 x1), (2, .int .u16 x2)] (.agg #[.string x0, .int .u16 x1, .int .u16 x2, (.int .u32 0), (.slice none 0 0)]) := ⟨fun w => by kernel_rfl⟩
theorem u7 (x0 : ByteArray) (x1 : Int) (x2 : Int) (x3 : Int) (x4 : Option Addr) (m4 c4 : Nat) : Built Tryz.prog 122 [(0, .string x0), (1, .int .u16 x1), (2, .int .u16 x2), (3, .int .u32 x3), (4, .slice x4 m4 c4)] (.agg #[.string x0, .int .u16 x1, .int .u16 x2, .int .u32 x3, .slice x4 m4 c4]) := ⟨fun w => by kernel_rfl⟩
theorem uI (x0 : ByteArray) (x1 : Int) (x2 : Int) (x3 : Option Addr) (m3 c3 : Nat) : Built Tryz.prog 122 [(0, .string x0), (1, .int .u16 x1), (2, .int .u16 x2), (4, .slice x3 m3 c3)] (.agg #[.string x0, .int .u16 x1, .int .u16 x2, (.int .u32 0), .slice x3 m3 c3]) := ⟨fun w => by kernel_rfl⟩
theorem KH (x0 : Bool) (x1 : Int) : Built Tryz.prog 126 [(1, .bool x0), (10, .int .u8 x1)] (.agg #[(.int .u16 0), .bool x0, (.int .u8 0), (.bool false), (.bool false), (.bool false), (.bool false), (.bool false), (.bool false), (.bool false), .int .u8 x1]) := ⟨fun w => by kernel_rfl⟩
theorem yZ (x0 x1 x2 x3 x4 x5 x6 x7 x8 x9 x10 : Value) (x11 : Option Addr) (m11 c11 : Nat) (x12 : Option Addr) (m12 c12 : Nat) (x13 : Option Addr) (m13 c13 : Nat) : Built Tryz.prog 132 [(0, .agg #[x0, x1, x2, x3, x4, x5, x6, x7, x8, x9, x10]), (1, .slice x11 m11 c11), (2, .slice x12 m12 c12), (3, .slice x13 m13 c13)] (.agg #[x0, x1, x2, x3, x4, x5, x6, x7, x8, x9, x10, .slice x11 m11 c11, .slice x12 m12 c12, .slice x13 m13 c13, (.slice none 0 0), (.bool false), (.int .u16 0), (.int .u8 0), (.int .u8 0), (.int .u16 0), (.slice none 0 0)]) := ⟨fun w => by kernel_rfl⟩
theorem zP (x0 : Int) (x1 : Int) (x2 : Int) (x3 : Int) (x4 : Int) (x5 : Int) : Built Tryz.prog 146 [(1, .int .i64 x0), (2, .int .i64 x1), (3, .int .i64 x2), (4, .int .i64 x3), (5, .int .i64 x4), (6, .int .i64 x5)] (.agg #[(.slice none 0 0), .int .i64 x0, .int .i64 x1, .int .i64 x2, .int .i64 x3, .int .i64 x4, .int .i64 x5, (.int .i64 0), (.bool false)]) := ⟨fun w => by kernel_rfl⟩
theorem abw (x0 : Int) : Built Tryz.prog 148 [(0, .int .i64 x0)] (.agg #[.int .i64 x0, (.int .i64 0), (.int .i64 0), (.bool false)]) := ⟨fun w => by kernel_rfl⟩
theorem Wv (x0 : Int) : Built Tryz.prog 154 [(0, .int .i64 x0)] (.agg #[.int .i64 x0]) := ⟨fun w => by kernel_rfl⟩
theorem zb (x0 : Int) (x1 : Int) (x2 : Int) (x3 : Int) (x4 : Int) (x5 : Int) (x6 : Bool) : Built Tryz.prog 158 [(2, .int .i64 x0), (3, .int .i64 x1), (4, .int .i64 x2), (5, .int .i64 x3), (6, .int .i64 x4), (7, .int .i64 x5), (9, .bool x6)] (.agg #[(.slice none 0 0), (.int .i64 0), .int .i64 x0, .int .i64 x1, .int .i64 x2, .int .i64 x3, .int .i64 x4, .int .i64 x5, (.int .i64 0), .bool x6, (.bool false)]) := ⟨fun w => by kernel_rfl⟩
theorem abx (x0 : Int) : Built Tryz.prog 160 [(0, .int .i64 x0)] (.agg #[.int .i64 x0, (.int .i64 0), (.int .i64 0), (.bool false)]) := ⟨fun w => by kernel_rfl⟩
theorem VE  : Built Tryz.prog 162 [] (.agg #[(.int .u8 0), (.int .i64 0)]) := ⟨fun w => by kernel_rfl⟩
theorem Ww (x0 : Int) : Built Tryz.prog 162 [(0, .int .u8 x0)] (.agg #[.int .u8 x0, (.int .i64 0)]) := ⟨fun w => by kernel_rfl⟩
theorem QH (x0 : Int) (x1 : Int) : Built Tryz.prog 162 [(0, .int .u8 x0), (1, .int .i64 x1)] (.agg #[.int .u8 x0, .int .i64 x1]) := ⟨fun w => by kernel_rfl⟩
theorem Wx (x0 : Int) : Built Tryz.prog 165 [(0, .int .i64 x0)] (.agg #[.int .i64 x0, (.int .u8 0), (.int .i64 0), (.int .u8 0), (.int .i64 0), (.int .u8 0), (.int .i64 0), (.int .u8 0), (.int .i64 0), (.int .u8 0), (.int .i64 0), (.int .u8 0), (.int .i64 0), (.int .u8 0), (.int .i64 0), (.int .u8 0), (.int .i64 0), (.int .u8 0), (.int .i64 0), (.slice none 0 0)]) := ⟨fun w => by kernel_rfl⟩
theorem Qu  : Built Tryz.prog 167 [] (.agg #[(.int .u8 0), (.slice none 0 0), (.slice none 0 0), (.int .u32 0), (.slice none 0 0), (.slice none 0 0)]) := ⟨fun w => by kernel_rfl⟩
theorem zQ (x0 x1 x2 : Value) (x3 : Int) : Built Tryz.prog 167 [(0, .agg #[x0, x1, x2]), (1, .int .u32 x3)] (.agg #[x0, x1, x2, .int .u32 x3, (.slice none 0 0), (.slice none 0 0)]) := ⟨fun w => by kernel_rfl⟩
theorem zd (x0 x1 x2 : Value) (x3 : Int) (x4 : Option Addr) (m4 c4 : Nat) (x5 : Option Addr) (m5 c5 : Nat) : Built Tryz.prog 167 [(0, .agg #[x0, x1, x2]), (1, .int .u32 x3), (2, .slice x4 m4 c4), (3, .slice x5 m5 c5)] (.agg #[x0, x1, x2, .int .u32 x3, .slice x4 m4 c4, .slice x5 m5 c5]) := ⟨fun w => by kernel_rfl⟩
theorem u9 (x0 : ByteArray) (x1 : Int) (x2 : Int) (x3 : Int) (x4 : ByteArray) : Built Tryz.prog 177 [(0, .string x0), (1, .int .u16 x1), (2, .int .u16 x2), (3, .int .u32 x3), (4, .string x4)] (.agg #[.string x0, .int .u16 x1, .int .u16 x2, .int .u32 x3, .string x4]) := ⟨fun w => by kernel_rfl⟩
theorem Wy (x0 x1 x2 x3 x4 : Value) : Built Tryz.prog 187 [(0, .agg #[x0, x1, x2, x3, x4])] (.agg #[x0, x1, x2, x3, x4, (.string (bs [])), (.int .u16 0), (.int .u16 0), (.int .u32 0), (.slice none 0 0), (.bool false)]) := ⟨fun w => by kernel_rfl⟩
theorem Wz (x0 : Int) : Built Tryz.prog 200 [(0, .int .i64 x0)] (.agg #[.int .i64 x0, (.slice none 0 0)]) := ⟨fun w => by kernel_rfl⟩
theorem yz (x0 : Int) (x1 : Option Addr) (m1 c1 : Nat) : Built Tryz.prog 200 [(0, .int .i64 x0), (1, .slice x1 m1 c1)] (.agg #[.int .i64 x0, .slice x1 m1 c1]) := ⟨fun w => by kernel_rfl⟩
theorem WA (x0 : Int) : Built Tryz.prog 202 [(0, .int .i64 x0)] (.agg #[.int .i64 x0, (.int .u8 0), (.slice none 0 0), (.slice none 0 0), (.int .u32 0)]) := ⟨fun w => by kernel_rfl⟩
theorem VF (x0 : Int) (x1 x2 x3 : Value) (x4 : Int) : Built Tryz.prog 202 [(0, .int .i64 x0), (1, .agg #[x1, x2, x3]), (2, .int .u32 x4)] (.agg #[.int .i64 x0, x1, x2, x3, .int .u32 x4]) := ⟨fun w => by kernel_rfl⟩
theorem QI (x0 x1 x2 x3 x4 : Value) : Built Tryz.prog 225 [(0, .agg #[x0, x1, x2, x3, x4])] (.agg #[x0, x1, x2, x3, x4, (.bool false)]) := ⟨fun w => by kernel_rfl⟩
theorem QJ (x0 x1 x2 x3 x4 : Value) (x5 : Bool) : Built Tryz.prog 225 [(0, .agg #[x0, x1, x2, x3, x4]), (1, .bool x5)] (.agg #[x0, x1, x2, x3, x4, .bool x5]) := ⟨fun w => by kernel_rfl⟩
theorem ze (x0 : ByteArray) : Built Tryz.prog 233 [(0, .string x0)] (.agg #[.string x0, (.bool false)]) := ⟨fun w => by kernel_rfl⟩
theorem QK (x0 : ByteArray) (x1 : Bool) : Built Tryz.prog 233 [(0, .string x0), (1, .bool x1)] (.agg #[.string x0, .bool x1]) := ⟨fun w => by kernel_rfl⟩
instance akO : UndC Tryz.prog 2 (.int .i64) := ⟨Tryz.underlying2⟩
instance akP : UndC Tryz.prog 3 (.int .i64) := ⟨Tryz.underlying3⟩
instance akQ : UndC Tryz.prog 4 .bool := ⟨Tryz.underlying4⟩
instance akR : UndC Tryz.prog 5 (.int .u8) := ⟨Tryz.underlying5⟩
instance akS : UndC Tryz.prog 9 .string := ⟨Tryz.underlying9⟩
instance akp : UndC Tryz.prog 22 (.int .u16) := ⟨Tryz.underlying22⟩
instance akq : UndC Tryz.prog 27 (.slice 3) := ⟨Tryz.underlying27⟩
instance akr : UndC Tryz.prog 28 (.slice 26) := ⟨Tryz.underlying28⟩
instance aks : UndC Tryz.prog 37 (.pointer 102) := ⟨Tryz.underlying37⟩
instance akt : UndC Tryz.prog 38 (.slice 122) := ⟨Tryz.underlying38⟩
instance aku : UndC Tryz.prog 41 (.int .u32) := ⟨Tryz.underlying41⟩
instance akv : UndC Tryz.prog 44 (.int .i64) := ⟨Tryz.underlying44⟩
instance akw : UndC Tryz.prog 47 (.array 9 3) := ⟨Tryz.underlying47⟩
instance akx : UndC Tryz.prog 48 (.array 9 4) := ⟨Tryz.underlying48⟩
instance aky : UndC Tryz.prog 60 (.slice 65) := ⟨Tryz.underlying60⟩
instance akz : UndC Tryz.prog 67 (.slice 69) := ⟨Tryz.underlying67⟩
instance akA : UndC Tryz.prog 74 (.pointer 82) := ⟨Tryz.underlying74⟩
instance akB : UndC Tryz.prog 79 (.pointer 146) := ⟨Tryz.underlying79⟩
instance akC : UndC Tryz.prog 80 (.pointer 200) := ⟨Tryz.underlying80⟩
instance akD : UndC Tryz.prog 95 (.pointer 158) := ⟨Tryz.underlying95⟩
instance akE : UndC Tryz.prog 98 (.pointer 165) := ⟨Tryz.underlying98⟩
instance ajr : UndC Tryz.prog 116 (.slice 177) := ⟨Tryz.underlying116⟩
instance ajs : UndC Tryz.prog 117 (.array 2 116) := ⟨Tryz.underlying117⟩
instance ajt : UndC Tryz.prog 118 (.slice 38) := ⟨Tryz.underlying118⟩
instance aju : UndC Tryz.prog 120 (.slice 9) := ⟨Tryz.underlying120⟩
instance ajv : UndC Tryz.prog 127 (.slice 24) := ⟨Tryz.underlying127⟩
instance ajw : UndC Tryz.prog 144 (.slice 148) := ⟨Tryz.underlying144⟩
instance ajx : UndC Tryz.prog 149 (.slice 5) := ⟨Tryz.underlying149⟩
instance ajy : UndC Tryz.prog 156 (.slice 160) := ⟨Tryz.underlying156⟩
instance ajz : UndC Tryz.prog 163 (.array 9 162) := ⟨Tryz.underlying163⟩
instance ajA : UndC Tryz.prog 185 (.slice 187) := ⟨Tryz.underlying185⟩
instance ajB : UndC Tryz.prog 192 (.int .u64) := ⟨Tryz.underlying192⟩
instance ajC : UndC Tryz.prog 198 (.slice 225) := ⟨Tryz.underlying198⟩
instance ajD : UndC Tryz.prog 229 (.slice 233) := ⟨Tryz.underlying229⟩
instance ajE : UndC Tryz.prog 239 (.slice 202) := ⟨Tryz.underlying239⟩
end Go.Proofs.YtbjkkoacclfejaaGreat
namespace Go.Proofs.YtbjkkoacclfejaaGreat
open Go.RowKit
variable {G : World} {P : Program} {n : Nat} {ρ : jG} {L : ja} {ty : TypeId} {Q : Exit → Act → World → Prop}
theorem kT {fn : Func} {Φ : Value → ja → Prop} (a t : Nat) {b k : Nat} {C : Array Value} {te : TypeId} {fr : Nat × Nat} {L' : ja} (hr : fn.results = #[.cell a t]) (hv : ρ.lookup a = some (.pointer (some ⟨b, 0, none⟩)))
 (ht : j5 P t k = true) (hm : (b, Obj.cells C te fr) ∈ L) (hk : C.size = k) (hl : ∀ w, Heap G w L → Heap G w L') (h : Φ (.agg C) L') : TQ G n ρ L .ret (bodyPost P fn (kE G Φ)) :=
 ⟨fun ac w he hw => ⟨he.defers, .agg C, by
   have h1 : ac.tmps.getD a undef = .pointer (some ⟨b, 0, none⟩) := he.reads (.tmp a) _ hv
   unfold j5 at ht
   cases hu : P.underlying t with
   | none => simp [hu] at ht
   | some d =>
     cases hi : P.info? t with
     | none => simp [hi] at ht
     | some i =>
       cases d with
       | struct fs =>
         simp [hu, hi] at ht
         have ha : (isAgg t).run P w = .ok true w := by
          unfold isAgg
          simp [run_underlying hu]
         have hc := run_loadCells_list (P := P) (w := w) ⟨b, 0, none⟩ C.toList (fun j v hj => by rw [qq, Nat.zero_add]; exact hw.cell hm (by simpa using hj))
         rw [Array.length_toList, hk] at hc
         rw [Array.getD_eq_getD_getElem?] at h1
         simp only [results, hr]
         simp [h1, asAddr, loadVar, ha, sizeOf, typeInfo, hi, ht, hc]
       | _ => simp [hu] at ht, _, L', rfl, h, hl w hw⟩⟩
theorem zf : ∀ (n : Nat) (l : List Int), l.Nodup → (∀ u ∈ l, 0 ≤ u ∧ u < n) → l.length ≤ n
 | 0, l, _, h => by
   cases l with
   | nil => simp
   | cons x r => have := h x (List.mem_cons_self ..); omega
 | n + 1, l, hn, h => by
   have h1 := zf n (l.erase n) (hn.erase _) (fun u hu => by
    have h2 := h u (List.mem_of_mem_erase hu)
    have h3 : u ≠ n := fun e => by subst e; exact (List.Nodup.not_mem_erase hn) hu
    omega)
   have h4 : l.length ≤ (l.erase (n : Int)).length + 1 := by rw [List.length_erase]; split <;> omega
   omega
end Go.Proofs.YtbjkkoacclfejaaGreat
namespace Go.Proofs.YtbjkkoacclfejaaGreat
open Go.ChangeShapes Go.WideShapes Go.ChangeAt Go.RowKit
abbrev Rp (α : Type) := ja → List Value → α → Prop
def uZ {α : Type} (r : Rp α) : Prop := ∀ L L' cs a, (∀ p ∈ L, p ∈ L') → r L cs a → r L' cs a
def qd (k : IntKind) (n : Int) : Prop := (Lit.int k n).wf = true
def uj (k : IntKind) : Rp Int := fun _ cs n => cs = [.int k n] ∧ qd k n
def akF : Rp Bool := fun _ cs b => cs = [.bool b]
def qB : Rp (List UInt8) := fun _ cs s => cs = [.string (bs s)] ∧ s.length ≤ maxLen
def sliceR {α : Type} (sz : Nat) (r : Rp α) : Rp (List α) := fun L cs l => ∃ a cap, cs = [.slice a l.length cap] ∧ l.length ≤ cap ∧ cap ≤ maxLen ∧ (l = [] ∨ ∃ b off C te fr, a = some ⟨b, off, none⟩ ∧ (b, Obj.cells C te fr) ∈ L ∧
 ∀ i x, l[i]? = some x → ∃ cs', cs'.length = sz ∧ r L cs' x ∧ ∀ j v, cs'[j]? = some v → C[off + i * sz + j]? = some v)
theorem uf (k : IntKind) : uZ (uj k) := fun _ _ _ _ _ h => h
theorem kK : uZ qB := fun _ _ _ _ _ h => h
theorem jx {α : Type} {sz : Nat} {r : Rp α} (h : uZ r) : uZ (sliceR sz r) := by
 rintro L L' cs l hL ⟨a, cap, h1, h2, h3, h4⟩
 refine ⟨a, cap, h1, h2, h3, h4.imp id ?_⟩
 rintro ⟨b, off, C, te, fr, q1, q2, q3⟩
 refine ⟨b, off, C, te, fr, q1, hL _ q2, fun i x hx => ?_⟩
 obtain ⟨cs', k1, k2, k3⟩ := q3 i x hx
 exact ⟨cs', k1, h L L' cs' x hL k2, k3⟩
section
variable {H : Type} {enc : TypeId × Value → H} {P : Program} {W : World}
def Opens {α : Type} (enc : TypeId × Value → H) (P : Program) (W : World) (t : TypeId) (n : Nat) (r : Rp α) : Prop := ∀ fuel cs x, DataW.trod enc P W 0 (fun _ => true) true fuel t cs = some x → cs.length = n ∧ ∃ a, r (kU W) cs a
theorem jX {t : TypeId} {k : IntKind} (hu : P.underlying t = some (.int k)) : Opens enc P W t 1 (uj k) := fun fuel cs x h => by
 obtain ⟨a, e, _, wa⟩ := DataW.trod_int hu h
 subst e
 exact ⟨rfl, a, rfl, wa⟩
theorem uu {t : TypeId} (hu : P.underlying t = some .string) : Opens enc P W t 1 qB := fun fuel cs x h => by
 obtain ⟨s, e, _, hs⟩ := DataW.trod_string hu h
 subst e
 exact ⟨rfl, s.data.toList, rfl, by simpa using hs⟩
theorem UB {a : Addr} {v : Value} (h : W.cell? a = some v) : a.spot = none → ∃ C te fr, W.heap[a.block]? = some (.cells C te fr) := by
 intro _
 unfold World.cell? at h
 split at h
 · exact ⟨_, _, _, by assumption⟩
 all_goals simp at h
theorem qN {α : Type} [Inhabited α] {t e : TypeId} {sz : Nat} {r : Rp α} (hu : P.underlying t = some (.slice e)) (hc : P.cellsOf e = sz) (hp : 0 < sz) (h : Opens enc P W e sz r) : Opens enc P W t 1 (sliceR sz r) := fun fuel cs x hf => by
 rcases Deep.open_slice hu hf with ⟨hcs, _⟩ | ⟨x, len, cap, m, n, D, Pl, hcs, _, hl, hm, hmm, _, hall⟩
 · subst hcs
   exact ⟨rfl, [], none, 0, rfl, by simp, by simp, Or.inl rfl⟩
 · subst hcs
   refine ⟨rfl, ?_⟩
   simp at hmm
   have hel : ∀ i, i < len → ∃ a : α, ∃ cs', cs'.length = sz ∧ r (kU W) cs' a ∧ ∀ j u, cs'[j]? = some u → W.cell? (x.add (i * sz + j)) = some u := by
    intro i hi
    obtain ⟨cs', h1, h2⟩ := hall i (by omega)
    obtain ⟨k1, a, k2⟩ := h _ _ _ h2
    obtain ⟨_, _, hat⟩ := World.cells?_some h1
    refine ⟨a, cs', k1, k2, fun j u hj => ?_⟩
    have hj3 := (List.getElem?_eq_some_iff.1 hj).1
    rw [← Deep.add_add, ← hc, hat j (by rw [hc, ← k1]; exact hj3), hj]
   obtain ⟨f, hf2⟩ := Deep.choose_lt hel
   have hlen : ((List.range len).map f).length = len := by simp
   refine ⟨(List.range len).map f, some x, cap, by rw [hlen], by rw [hlen]; exact hl, hm, ?_⟩
   by_cases h0 : len = 0
   · left; subst h0; rfl
   · right
     obtain ⟨cs0, g1, _, g2⟩ := hf2 0 (by omega)
     obtain ⟨v0, hv0⟩ : ∃ v0, cs0[0]? = some v0 := ⟨_, List.getElem?_eq_getElem (by omega)⟩
     have hc0 := g2 0 _ hv0
     obtain ⟨b, off, spot⟩ := x
     have hspot : spot = none := by simpa [Addr.add] using World.cell?_spot hc0
     subst hspot
     rw [qq] at hc0
     obtain ⟨C, te, fr, hb⟩ := UB hc0 rfl
     refine ⟨b, off, C, te, fr, rfl, ZD hb, fun i a hi => ?_⟩
     rw [List.getElem?_map, Option.map_eq_some_iff] at hi
     obtain ⟨k, hk, rfl⟩ := hi
     obtain ⟨hkl, hkk⟩ := List.getElem?_eq_some_iff.1 hk
     simp at hkl hkk
     subst hkk
     obtain ⟨cs', g1, g2, g3⟩ := hf2 i hkl
     refine ⟨cs', g1, g2, fun j v hj => ?_⟩
     have := g3 j v hj
     rw [qq] at this
     unfold World.cell? at this
     dsimp only at this
     rw [show W.heap[b]? = some (.cells C te fr) from hb] at this
     rw [Nat.add_assoc]
     simpa using this
theorem qm {t : TypeId} {fs : Array Field} {fuel : Nat} {cs : List Value} {x : DataW H × List MemPlace} (hu : P.underlying t = some (.struct fs)) (h : DataW.trod enc P W 0 (fun _ => true) true fuel t cs = some x) :
 cs.length = P.cellsOf t ∧ ∀ (i : Nat) (f : Field), fs[i]? = some f → ∃ n y, DataW.trod enc P W 0 (fun _ => true) true n f.type ((cs.drop f.offset).take (P.cellsOf f.type)) = some y := by
 obtain ⟨xs, n, _, rfl, hl, hlen, hf⟩ := DataW.trod_struct hu h
 refine ⟨hl, fun i f hi => ?_⟩
 have hi' : i < xs.length := by rw [hlen]; have := (Array.getElem?_eq_some_iff.1 hi).1; simpa using this
 exact ⟨n, xs[i], by rw [hf i f hi]; exact List.getElem?_eq_getElem hi'⟩
theorem Opens.at {α : Type} {r : Rp α} {t : TypeId} {n : Nat} (h : Opens enc P W t n r) {fuel : Nat} {cs : List Value} {x : DataW H × List MemPlace} (hx : DataW.trod enc P W 0 (fun _ => true) true fuel t cs = some x) : ∃ a, r (kU W) cs a := (h fuel cs x hx).2
end
end Go.Proofs.YtbjkkoacclfejaaGreat
namespace Go.Proofs.YtbjkkoacclfejaaGreat
open Go.RowKit
def Laid {α : Type} (r : Rp α) (sz : Nat) (L : ja) : List Value → List α → Prop
 | xs, [] => xs = []
 | xs, x :: l => ∃ c ys, xs = c ++ ys ∧ c.length = sz ∧ r L c x ∧ Laid r sz L ys l
section
variable {α : Type} {r : Rp α} {sz : Nat} {L : ja}
theorem Laid.mono (hr : uZ r) {L' : ja} (hL : ∀ p ∈ L, p ∈ L') : ∀ {l : List α} {xs : List Value}, Laid r sz L xs l → Laid r sz L' xs l
 | [], _, h => h
 | x :: l, _, ⟨c, ys, h1, h2, h3, h4⟩ => ⟨c, ys, h1, h2, hr _ _ _ _ hL h3, Laid.mono hr hL h4⟩
theorem Laid.append : ∀ {l m : List α} {xs ys : List Value}, Laid r sz L xs l → Laid r sz L ys m → Laid r sz L (xs ++ ys) (l ++ m)
 | [], m, _, _, h, k => by rw [show _ = [] from h]; exact k
 | x :: l, m, _, ys, ⟨c, zs, h1, h2, h3, h4⟩, k => ⟨c, zs ++ ys, by rw [h1, List.append_assoc], h2, h3, h4.append k⟩
theorem Laid.one {c : List Value} {x : α} (hn : c.length = sz) (h : r L c x) : Laid r sz L c [x] := ⟨c, [], by simp, hn, h, rfl⟩
theorem Laid.len : ∀ {l : List α} {xs : List Value}, Laid r sz L xs l → xs.length = l.length * sz
 | [], _, h => by rw [show _ = [] from h]; simp
 | x :: l, _, ⟨c, zs, h1, h2, h3, h4⟩ => by rw [h1, List.length_append, h2, h4.len, List.length_cons, Nat.succ_mul]; omega
theorem Laid.at : ∀ {l : List α} {xs : List Value}, Laid r sz L xs l → ∀ {i : Nat} {x : α}, l[i]? = some x → ∃ c, c.length = sz ∧ r L c x ∧ ∀ j v, c[j]? = some v → xs[i * sz + j]? = some v
 | [], _, _, i, x, h => by simp at h
 | y :: l, _, ⟨c, zs, h1, h2, h3, h4⟩, 0, x, h => by
   simp at h
   subst h
   refine ⟨c, h2, h3, fun j v hj => ?_⟩
   have := (List.getElem?_eq_some_iff.1 hj).1
   rw [h1, Nat.zero_mul, Nat.zero_add, List.getElem?_append_left this]
   exact hj
 | y :: l, _, ⟨c, zs, h1, h2, h3, h4⟩, i + 1, x, h => by
   obtain ⟨d, k1, k2, k3⟩ := h4.at (i := i) (x := x) (by simpa using h)
   refine ⟨d, k1, k2, fun j v hj => ?_⟩
   rw [h1, List.getElem?_append_right (by rw [h2, Nat.succ_mul]; omega), h2, ← k3 j v hj]
   congr 1
   rw [Nat.succ_mul]
   omega
theorem Laid.take : ∀ {l : List α} {xs : List Value} (k : Nat), Laid r sz L xs l → k ≤ l.length → Laid r sz L (xs.take (k * sz)) (l.take k)
 | l, xs, 0, h, _ => by simp [Laid]
 | [], xs, k + 1, h, hk => by simp at hk
 | x :: l, _, k + 1, ⟨c, zs, h1, h2, h3, h4⟩, hk => by
   refine ⟨c, zs.take (k * sz), ?_, h2, h3, h4.take k (by simpa using hk)⟩
   rw [h1, List.take_append, h2, List.take_of_length_le (by rw [h2, Nat.succ_mul]; omega)]
   congr 2
   rw [Nat.succ_mul]
   omega
structure ORow (r : Rp α) (e : TypeId) (sz : Nat) (L : ja) (a : Option Addr) (c : Nat) (l : List α) (B : ja) : Prop where
 ex : ∃ xs, Row e sz (.slice a l.length c) l.length xs B ∧ Laid r sz L xs l ∧ ∀ x ∈ xs, x.oneCell' = true
theorem ORow.nil (e : TypeId) : ORow r e sz L none 0 [] [] := ⟨[], Row.nil _ _, rfl, by simp⟩
theorem ORow.mono (hr : uZ r) {L' : ja} (hL : ∀ p ∈ L, p ∈ L') {e : TypeId} {a : Option Addr} {c : Nat} {l : List α} {B : ja} (h : ORow r e sz L a c l B) : ORow r e sz L' a c l B := by
 obtain ⟨xs, h1, h2, h3⟩ := h.ex
 exact ⟨xs, h1, h2.mono hr hL, h3⟩
theorem ORow.sliceR (hr : uZ r) {L' : ja} {e : TypeId} {a : Option Addr} {c : Nat} {l : List α} {B : ja} (h : ORow r e sz L a c l B) (hL : ∀ p ∈ L, p ∈ L') (hB : ∀ p ∈ B, p ∈ L') : sliceR sz r L' [.slice a l.length c] l := by
 obtain ⟨xs, h1, h2, h3⟩ := h.ex
 have h2' := h2.mono hr hL
 rcases h1.is with ⟨q1, q2, q3⟩ | ⟨b, cap, cur, q1, q2, q3, q4, q5, q6⟩
 · obtain ⟨rfl, e1, rfl⟩ := Value.slice.inj q1
   exact ⟨none, 0, rfl, by omega, by unfold maxLen; omega, Or.inl (List.eq_nil_of_length_eq_zero q2)⟩
 · obtain ⟨rfl, e1, rfl⟩ := Value.slice.inj q1
   refine ⟨_, c, rfl, q3, q4, Or.inr ⟨b, 0, cur, e, (0, 0), rfl, hB _ (by rw [q2]; exact List.mem_cons_self ..), fun i x hx => ?_⟩⟩
   obtain ⟨cs', k1, k2, k3⟩ := h2'.at hx
   refine ⟨cs', k1, k2, fun j v hj => ?_⟩
   have hil := (List.getElem?_eq_some_iff.1 hx).1
   have hjl := (List.getElem?_eq_some_iff.1 hj).1
   have hlt : i * sz + j < l.length * sz := by
    have : (i + 1) * sz ≤ l.length * sz := Nat.mul_le_mul_right _ hil
    rw [Nat.succ_mul] at this
    omega
   have := k3 j v hj
   rw [← q6, List.getElem?_take_of_lt hlt] at this
   rw [Nat.zero_add]
   simpa using this
theorem sliceR.cut {a : Option Addr} {m c : Nat} {l : List α} (h : sliceR sz r L [.slice a m c] l) : m = l.length ∧ m ≤ c ∧ c ≤ maxLen ∧ (l = [] ∨ ∃ b off C te fr, a = some ⟨b, off, none⟩ ∧ (b, Obj.cells C te fr) ∈ L ∧
 ∀ i x, l[i]? = some x → ∃ cs', cs'.length = sz ∧ r L cs' x ∧ ∀ j v, cs'[j]? = some v → C[off + i * sz + j]? = some v) := by
 obtain ⟨a', c', h1, h2, h3, h4⟩ := h
 simp only [List.cons.injEq, and_true] at h1
 obtain ⟨rfl, rfl, rfl⟩ := Value.slice.inj h1
 exact ⟨rfl, h2, h3, h4⟩
theorem sliceR.val {cs : List Value} {l : List α} (h : sliceR sz r L cs l) : ∃ a c, cs = [.slice a l.length c] ∧ sliceR sz r L [.slice a l.length c] l := by
 obtain ⟨a, c, h1, h2⟩ := h
 exact ⟨a, c, h1, a, c, rfl, h2⟩
theorem sliceR.nil : sliceR sz r L [.slice none 0 0] ([] : List α) := ⟨none, 0, rfl, by simp, by unfold maxLen; omega, Or.inl rfl⟩
end
section
variable {G : World} {P : Program} {n : Nat} {ρ : jG} {L : ja} {ty : TypeId} {Q : Exit → Act → World → Prop}
theorem adq {s x : Operand} {t e te : TypeId} {sz bytes bl : Nat} {z v : Value} {cs : List Value} {m : Nat} {xs : List Value} {B : ja} (E : ElemTy P t e sz bytes z) (hs : ev ρ s = some v) (hx : ev ρ x = some (.slice (some ⟨bl, 0, none⟩) 1 1))
 (hrow : Row e sz v m xs B) (hn : cs.length = sz) (hone : ∀ v ∈ cs, v.oneCell' = true) (h63 : m + 1 ≤ maxLen) (hby : (m + 1) * bytes ≤ 140737488355328) :
 OpT P G ρ ((bl, .cells cs.toArray te (0, 0)) :: (B ++ L)) (.call ⟨.builtin .append, #[s, x], #[t, t]⟩) ty fun v' L' => ∃ B', Row e sz v' (m + 1) (xs ++ cs) B' ∧ L' = B' ++ L :=
 (OpT.heap (L' := B ++ ((bl, .cells cs.toArray te (0, 0)) :: L)) (fun w hw => hw.perm List.perm_middle.symm) (uA E hs hx hrow ⟨by omega, hone, Or.inr ⟨bl, 0, 1, cs.toArray, te, (0, 0), rfl, List.mem_cons_self .., fun j y hj => by rw [Nat.zero_add]; simpa using hj⟩⟩ h63 hby)).post fun v' M ⟨B', h1, h2⟩ =>
   ⟨B' ++ L, ⟨B', h1, rfl⟩, fun w hw => (h2 ▸ hw : Heap G w (B' ++ _)).sub ((List.Sublist.refl B').append (List.sublist_cons_self _ _))⟩
theorem uv {α : Type} {r : Rp α} {s x : Operand} {t e te : TypeId} {sz bytes bl : Nat} {z : Value} {a : Option Addr} {c : Nat} {cs : List Value} {y : α} {l : List α} {B L0 : ja} (E : ElemTy P t e sz bytes z) (hs : ev ρ s = some (.slice a l.length c)) (hx : ev ρ x = some (.slice (some ⟨bl, 0, none⟩) 1 1))
 (hrow : ORow r e sz L0 a c l B) (hn : cs.length = sz) (hone : ∀ v ∈ cs, v.oneCell' = true) (hy : r L0 cs y) (h63 : l.length + 1 ≤ maxLen) (hby : (l.length + 1) * bytes ≤ 140737488355328) :
 OpT P G ρ ((bl, .cells cs.toArray te (0, 0)) :: (B ++ L)) (.call ⟨.builtin .append, #[s, x], #[t, t]⟩) ty fun v' L' => ∃ a' c' B', v' = .slice a' (l ++ [y]).length c' ∧ ORow r e sz L0 a' c' (l ++ [y]) B' ∧ L' = B' ++ L := by
 obtain ⟨xs, h1, h2, h3⟩ := hrow.ex
 refine (adq E hs hx h1 hn hone h63 hby).post fun v' M ⟨B', k1, k2⟩ => ?_
 obtain ⟨a', c', rfl⟩ := k1.slice
 have hlen : (l ++ [y]).length = l.length + 1 := by simp
 refine ⟨M, ⟨a', c', B', by rw [hlen], ⟨xs ++ cs, by rw [hlen]; exact k1, h2.append (Laid.one hn hy), fun x hx => ?_⟩, k2⟩, fun w hw => hw⟩
 rcases List.mem_append.1 hx with hx | hx
 · exact h3 x hx
 · exact hone x hx
theorem qC {t e : TypeId} {x : Operand} {sz bytes : Nat} {z : Value} {cs : List Value} (E : ElemTy P t e sz bytes z) (hx : ev ρ x = some (.agg cs.toArray)) (hn : cs.length = sz) (hsz : sz ≤ 1000) :
 OpNew P G ρ L (.buildSlice t 1 #[(0, x)]) ty (fun b => .slice (some ⟨b, 0, none⟩) 1 1) (.cells cs.toArray e (0, 0)) :=
 kr (ps := [(0, x)]) (vs := [(0, .agg cs.toArray)]) (by simp [ur, hx]) (uS E [.agg cs.toArray] rfl (fun v hv => by rw [List.mem_singleton.1 hv]; simpa [Value.cells] using hn) (by omega) (by simp [Value.cells]))
end
end Go.Proofs.YtbjkkoacclfejaaGreat
namespace Go.Proofs.YtbjkkoacclfejaaGreat
open Go.RowKit
open Classical in
noncomputable def hit (p q : Nat × Obj) : Nat := if p = q then 1 else 0
noncomputable def cnt (p : Nat × Obj) : ja → Nat
 | [] => 0
 | q :: L => hit p q + cnt p L
theorem Qv (p : Nat × Obj) : cnt p [] = 0 := rfl
theorem kL (p q : Nat × Obj) (L : ja) : cnt p (q :: L) = hit p q + cnt p L := rfl
theorem qn (p : Nat × Obj) : ∀ A B : ja, cnt p (A ++ B) = cnt p A + cnt p B
 | [], B => by simp [cnt]
 | q :: A, B => by rw [List.cons_append, kL, kL, qn p A B]; omega
theorem cnt_pos {p : Nat × Obj} : ∀ {L : ja}, p ∈ L ↔ 1 ≤ cnt p L
 | [] => by simp [cnt]
 | q :: L => by
   rw [kL, List.mem_cons, cnt_pos (L := L)]
   unfold hit
   by_cases h : p = q
   · rw [if_pos h]; simp [h]
   · rw [if_neg h]; simp [h]
theorem WB {p : Nat × Obj} : ∀ {L : ja}, (L.map (·.1)).Nodup → cnt p L ≤ 1
 | [], _ => by simp [cnt]
 | q :: L, h => by
   rw [List.map_cons, List.nodup_cons] at h
   rw [kL]
   have h2 := WB (p := p) h.2
   unfold hit
   by_cases e : p = q
   · subst e
     rw [if_pos rfl]
     by_cases h0 : 1 ≤ cnt p L
     · exact absurd (List.mem_map.2 ⟨p, cnt_pos.2 h0, rfl⟩) h.1
     · omega
   · rw [if_neg e]; omega
theorem WC : ∀ {L : ja}, (L.map (·.1)).Nodup → ∀ {p q : Nat × Obj}, p ∈ L → q ∈ L → p.1 = q.1 → p = q
 | [], _, p, q, h, _, _ => by simp at h
 | r :: L, hn, p, q, hp, hq, e => by
   rw [List.map_cons, List.nodup_cons] at hn
   rcases List.mem_cons.1 hp with rfl | hp' <;> rcases List.mem_cons.1 hq with rfl | hq'
   · rfl
   · exact absurd (List.mem_map.2 ⟨q, hq', e.symm⟩) hn.1
   · exact absurd (List.mem_map.2 ⟨p, hp', e⟩) hn.1
   · exact WC hn.2 hp' hq' e
theorem KI : ∀ {L L' : ja}, (∀ p, cnt p L' ≤ cnt p L) → (L.map (·.1)).Nodup → (L'.map (·.1)).Nodup
 | L, [], _, _ => by simp
 | L, q :: L', h, hn => by
   rw [List.map_cons, List.nodup_cons]
   refine ⟨fun hm => ?_, KI (L := L) (fun p => by have := h p; rw [kL] at this; omega) hn⟩
   obtain ⟨r, hr, e⟩ := List.mem_map.1 hm
   have h1 : 1 ≤ cnt r L' := cnt_pos.1 hr
   have hq : q ∈ L := cnt_pos.2 (by have := h q; rw [kL] at this; have h0 : hit q q = 1 := by simp [hit]
                                    omega)
   have hr' : r ∈ L := cnt_pos.2 (by have := h r; rw [kL] at this; omega)
   have := WC hn hr' hq e
   subst this
   have h2 := h r
   rw [kL] at h2
   have h3 := WB (p := r) hn
   have h0 : hit r r = 1 := by simp [hit]
   omega
variable {G : World} {P : Program} {n : Nat} {ρ : jG} {L : ja} {ty : TypeId} {Q : Exit → Act → World → Prop}
theorem Heap.cnt {w : World} {L' : ja} (h : Heap G w L) (hc : ∀ p, Go.Proofs.YtbjkkoacclfejaaGreat.cnt p L' ≤ Go.Proofs.YtbjkkoacclfejaaGreat.cnt p L) : Heap G w L' :=
 ⟨h.still, KI hc h.nodup, fun p hp => h.get p (cnt_pos.2 (Nat.le_trans (cnt_pos.1 hp) (hc p)))⟩
theorem jW {L' : ja} (hc : ∀ p, cnt p L' ≤ cnt p L) : ∀ p ∈ L', p ∈ L := fun p hp => cnt_pos.2 (Nat.le_trans (cnt_pos.1 hp) (hc p))
section
variable {α : Type} {r : Rp α} {sz : Nat}
theorem Laid.set : ∀ {l : List α} {xs : List Value} {i : Nat} {y : α} {cs : List Value}, Laid r sz L xs l → i < l.length → cs.length = sz → r L cs y → Laid r sz L (xs.take (i * sz) ++ cs ++ xs.drop (i * sz + sz)) (l.set i y)
 | [], _, i, y, cs, _, hi, _, _ => by simp at hi
 | x :: l, _, 0, y, cs, ⟨c, zs, h1, h2, h3, h4⟩, _, hn, hy => by
   refine ⟨cs, zs, ?_, hn, hy, h4⟩
   rw [h1, Nat.zero_mul, List.take_zero, List.nil_append, Nat.zero_add, ← h2, List.drop_left]
 | x :: l, _, i + 1, y, cs, ⟨c, zs, h1, h2, h3, h4⟩, hi, hn, hy => by
   refine ⟨c, zs.take (i * sz) ++ cs ++ zs.drop (i * sz + sz), ?_, h2, h3, h4.set (by simpa using hi) hn hy⟩
   rw [h1, Nat.succ_mul, List.take_append, List.drop_append, h2, List.take_of_length_le (by omega), List.drop_of_length_le (l := c) (by omega)]
   rw [show i * sz + sz - sz = i * sz by omega, show i * sz + sz + sz - sz = i * sz + sz by omega]
   simp
theorem ORow.set {e : TypeId} {a : Option Addr} {c : Nat} {l : List α} {B : ja} {i b : Nat} {y : α} {cs : List Value} {cur cur' : Array Value} (h : ORow r e sz L a c l B) (hB : B = [(b, .cells cur e (0, 0))]) (hi : i < l.length) (hn : cs.length = sz) (hy : r L cs y) (hone : ∀ v ∈ cs, v.oneCell' = true)
 (hs : cur'.size = cur.size) (hin : ∀ j v, cs[j]? = some v → cur'[i * sz + j]? = some v) (hout : ∀ k, k < i * sz ∨ i * sz + sz ≤ k → cur'[k]? = cur[k]?) : ORow r e sz L a c (l.set i y) [(b, .cells cur' e (0, 0))] := by
 obtain ⟨xs, h1, h2, h3⟩ := h.ex
 have hlen := h2.len
 have hle : i * sz + sz ≤ l.length * sz := by
  have : (i + 1) * sz ≤ l.length * sz := Nat.mul_le_mul_right _ hi
  rw [Nat.succ_mul] at this
  exact this
 rcases h1.is with ⟨_, _, q3⟩ | ⟨b', cap, cur0, q1, q2, q3, q4, q5, q6⟩
 · rw [q3] at hB; simp at hB
 · rw [q2] at hB
   simp only [List.cons.injEq, Prod.mk.injEq, Obj.cells.injEq, and_true] at hB
   obtain ⟨rfl, rfl⟩ := hB
   refine ⟨xs.take (i * sz) ++ cs ++ xs.drop (i * sz + sz), ⟨?_, Or.inr ⟨b', cap, cur', ?_, rfl, ?_, q4, by rw [hs]; exact q5, ?_⟩⟩, h2.set hi hn hy, fun v hv => ?_⟩
   · simp only [List.length_append, List.length_take, List.length_drop, List.length_set, hlen, hn]; omega
   · rw [List.length_set]; exact q1
   · rw [List.length_set]; exact q3
   · rw [List.length_set]
     apply List.ext_getElem?
     intro k
     have hx : ∀ k, k < l.length * sz → xs[k]? = cur0[k]? := fun k hk => by
      rw [← q6, List.getElem?_take_of_lt hk]; simp
     by_cases hk : k < l.length * sz
     · rw [List.getElem?_take_of_lt hk, Array.getElem?_toList]
       by_cases k1 : k < i * sz
       · rw [hout k (Or.inl k1), List.append_assoc, List.getElem?_append_left (by rw [List.length_take]; omega), List.getElem?_take_of_lt k1, hx k hk]
       · by_cases k2 : k < i * sz + sz
         · rw [List.append_assoc, List.getElem?_append_right (by rw [List.length_take]; omega), List.getElem?_append_left (by rw [List.length_take]; omega)]
           have hm : min (i * sz) xs.length = i * sz := by omega
           rw [List.length_take, hm]
           obtain ⟨v, hv⟩ : ∃ v, cs[k - i * sz]? = some v := ⟨_, List.getElem?_eq_getElem (by omega)⟩
           rw [hv]
           have := hin _ v hv
           rw [show i * sz + (k - i * sz) = k by omega] at this
           exact this
         · rw [hout k (Or.inr (by omega)), List.getElem?_append_right (by simp only [List.length_append, List.length_take]; omega)]
           have hm : (xs.take (i * sz) ++ cs).length = i * sz + sz := by simp only [List.length_append, List.length_take]; omega
           rw [hm, List.getElem?_drop, show i * sz + sz + (k - (i * sz + sz)) = k by omega, hx k hk]
     · rw [List.getElem?_eq_none (by simp; omega), List.getElem?_eq_none (by simp only [List.length_append, List.length_take, List.length_drop]; omega)]
   · rcases List.mem_append.1 hv with hv | hv
     · rcases List.mem_append.1 hv with hv | hv
       · exact h3 v (List.mem_of_mem_take hv)
       · exact hone v hv
     · exact h3 v (List.mem_of_mem_drop hv)
theorem ORow.block {e : TypeId} {a : Option Addr} {c : Nat} {l : List α} {B : ja} (h : ORow r e sz L a c l B) (hl : l ≠ []) : ∃ b cur, a = some ⟨b, 0, none⟩ ∧ B = [(b, .cells cur e (0, 0))] ∧ l.length ≤ c ∧ c ≤ maxLen ∧ cur.size = c * sz ∧
 ∀ i x, l[i]? = some x → ∃ cs, cs.length = sz ∧ r L cs x ∧ (∀ v ∈ cs, v.oneCell' = true) ∧ ∀ j v, cs[j]? = some v → cur[i * sz + j]? = some v := by
 obtain ⟨xs, h1, h2, h3⟩ := h.ex
 rcases h1.is with ⟨_, q2, _⟩ | ⟨b, cap, cur, q1, q2, q3, q4, q5, q6⟩
 · exact absurd (List.eq_nil_of_length_eq_zero q2) hl
 · obtain ⟨rfl, _, rfl⟩ := Value.slice.inj q1
   refine ⟨b, cur, rfl, q2, q3, q4, q5, fun i x hx => ?_⟩
   obtain ⟨cs, k1, k2, k3⟩ := h2.at hx
   refine ⟨cs, k1, k2, fun v hv => ?_, fun j v hj => ?_⟩
   · obtain ⟨j, hj⟩ := List.getElem?_of_mem hv
     exact h3 v (List.mem_of_getElem? (k3 j v hj))
   · have hil := (List.getElem?_eq_some_iff.1 hx).1
     have hjl := (List.getElem?_eq_some_iff.1 hj).1
     have hlt : i * sz + j < l.length * sz := by
      have : (i + 1) * sz ≤ l.length * sz := Nat.mul_le_mul_right _ hil
      rw [Nat.succ_mul] at this
      omega
     have := k3 j v hj
     rw [← q6, List.getElem?_take_of_lt hlt] at this
     simpa using this
end
end Go.Proofs.YtbjkkoacclfejaaGreat
namespace Go.Proofs.YtbjkkoacclfejaaGreat
open Go.RowKit
theorem dT {p : Prop} [Decidable p] (h : p) : decide p = true := decide_eq_true h
theorem dF {p : Prop} [Decidable p] (h : ¬ p) : decide p = false := decide_eq_false h
section
variable {α : Type} [BEq α] [LawfulBEq α] {a b : α}
theorem eT (h : a = b) : (a == b) = true := beq_iff_eq.2 h
theorem eF (h : ¬ a = b) : (a == b) = false := beq_false_of_ne h
theorem nT (h : ¬ a = b) : (a != b) = true := bne_iff_ne.2 h
theorem nF (h : a = b) : (a != b) = false := by rw [h]; simp
end
theorem xT {b : Bool} (h : b = false) : (!b) = true := by rw [h]; rfl
theorem xF {b : Bool} (h : b = true) : (!b) = false := by rw [h]; rfl
variable {G : World} {P : Program} {n : Nat} {ρ : jG} {L : ja} {ty : TypeId} {Q : Exit → Act → World → Prop}
section
variable {c : Operand} {x y : Code}
theorem Jm {p : Prop} [Decidable p] (hc : ev ρ c = some (.bool (decide p))) (ht : p → T P G n ρ L x Q) (hf : ¬ p → T P G n ρ L y Q) : T P G n ρ L (.cond c x y) Q := YC hc (fun h => ht (of_decide_eq_true h)) (fun h => hf (of_decide_eq_false h))
theorem adr {α : Type} [BEq α] [LawfulBEq α] {a b : α} (hc : ev ρ c = some (.bool (a == b))) (ht : a = b → T P G n ρ L x Q) (hf : ¬ a = b → T P G n ρ L y Q) : T P G n ρ L (.cond c x y) Q := YC hc (fun h => ht (beq_iff_eq.1 h)) (fun h => hf (fun e => by rw [eT e] at h; cases h))
theorem ads {α : Type} [BEq α] [LawfulBEq α] {a b : α} (hc : ev ρ c = some (.bool (a != b))) (ht : ¬ a = b → T P G n ρ L x Q) (hf : a = b → T P G n ρ L y Q) : T P G n ρ L (.cond c x y) Q := YC hc (fun h => ht (bne_iff_ne.1 h)) (fun h => hf (by simpa using h))
end
section
variable {ops : Array Oper} {d j dj : Nat} {op : Op} {pos : String} {after : Array Edge} {rest : List Oper}
theorem aby {p : Prop} [Decidable p] {want : Bool} (hs : jT ops j = some dj) (hv : ρ.lookup dj = some (.bool (decide p))) (ht : p → TL P G ops n ρ L (⟨some d, op, ty, pos, after, some (j, want)⟩ :: rest) Q) (hf : ¬ p → TL P G ops n ρ L (⟨some d, op, ty, pos, after, some (j, want)⟩ :: rest) Q) :
 TL P G ops n ρ L (⟨some d, op, ty, pos, after, some (j, want)⟩ :: rest) Q := by
 by_cases h : p
 · exact ht h
 · exact hf h
theorem ahS {b want : Bool} (hs : jT ops j = some dj) (hv : ρ.lookup dj = some (.bool b)) (ht : b = true → TL P G ops n ρ L (⟨some d, op, ty, pos, after, some (j, want)⟩ :: rest) Q) (hf : b = false → TL P G ops n ρ L (⟨some d, op, ty, pos, after, some (j, want)⟩ :: rest) Q) :
 TL P G ops n ρ L (⟨some d, op, ty, pos, after, some (j, want)⟩ :: rest) Q := by
 cases b
 · exact hf rfl
 · exact ht rfl
end
theorem kF {t : TypeId} {x : Operand} {C : Array Value} (hx : ev ρ x = some (.agg C)) : OpNew P G ρ L (.box t x) ty (fun b => .pointer (some ⟨b, 0, none⟩)) (.cells C t (0, 0)) := YG hx rfl
theorem qc {fn : Func} {Φ : Value → ja → Prop} (t u s : Nat) (v x y : Value) (hr : fn.results = #[.tmp t, .tmp u, .tmp s]) (hv : ρ.lookup t = some v) (hx : ρ.lookup u = some x) (hy : ρ.lookup s = some y) (h : Φ (.tuple #[v, x, y]) L) : TQ G n ρ L .ret (bodyPost P fn (kE G Φ)) :=
 ⟨fun a w he hw => ⟨he.defers, .tuple #[v, x, y], by
   have h1 : a.tmps.getD t undef = v := he.reads (.tmp t) v hv
   have h2 : a.tmps.getD u undef = x := he.reads (.tmp u) x hx
   have h3 : a.tmps.getD s undef = y := he.reads (.tmp s) y hy
   simp only [results, hr]
   simp
   exact ⟨by simpa using h1, by simpa using h2, by simpa using h3⟩, _, L, rfl, h, hw⟩⟩
theorem qV {fn : Func} {Φ : Value → ja → Prop} (t u s r : Nat) (v x y z : Value) (hr : fn.results = #[.tmp t, .tmp u, .tmp s, .tmp r]) (hv : ρ.lookup t = some v) (hx : ρ.lookup u = some x) (hy : ρ.lookup s = some y) (hz : ρ.lookup r = some z) (h : Φ (.tuple #[v, x, y, z]) L) : TQ G n ρ L .ret (bodyPost P fn (kE G Φ)) :=
 ⟨fun a w he hw => ⟨he.defers, .tuple #[v, x, y, z], by
   have h1 : a.tmps.getD t undef = v := he.reads (.tmp t) v hv
   have h2 : a.tmps.getD u undef = x := he.reads (.tmp u) x hx
   have h3 : a.tmps.getD s undef = y := he.reads (.tmp s) y hy
   have h4 : a.tmps.getD r undef = z := he.reads (.tmp r) z hz
   simp only [results, hr]
   simp
   exact ⟨by simpa using h1, by simpa using h2, by simpa using h3, by simpa using h4⟩, _, L, rfl, h, hw⟩⟩
theorem Jn {a : Nat} {b k : Nat} {t : TypeId} {C : Array Value} {te : TypeId} {fr : Nat × Nat} {ac : Act} {w : World} (he : Env n ρ ac) (hv : ρ.lookup a = some (.pointer (some ⟨b, 0, none⟩))) (ht : j5 P t k = true) (hg : w.heap[b]? = some (.cells C te fr)) (hk : C.size = k) :
 ac.tmps.getD a undef = .pointer (some ⟨b, 0, none⟩) ∧ (loadVar t ⟨b, 0, none⟩).run P w = .ok (.agg C) w := by
 have h1 : ac.tmps.getD a undef = .pointer (some ⟨b, 0, none⟩) := he.reads (.tmp a) _ hv
 refine ⟨h1, ?_⟩
 unfold j5 at ht
 cases hu : P.underlying t with
 | none => simp [hu] at ht
 | some d =>
   cases hi : P.info? t with
   | none => simp [hi] at ht
   | some i =>
     cases d with
     | struct fs =>
       simp [hu, hi] at ht
       have ha : (isAgg t).run P w = .ok true w := by
        unfold isAgg
        simp [run_underlying hu]
       have hc := run_loadCells_list (P := P) (w := w) ⟨b, 0, none⟩ C.toList (fun j v hj => by
        rw [qq, Nat.zero_add]
        unfold World.cell?
        rw [hg]
        simpa using hj)
       rw [Array.length_toList, hk] at hc
       simp [loadVar, ha, sizeOf, typeInfo, hi, ht, hc]
     | _ => simp [hu] at ht
theorem kB {fn : Func} {Φ : Value → ja → Prop} (a t u : Nat) {b k : Nat} {C : Array Value} {te : TypeId} {fr : Nat × Nat} {x : Value} {L' : ja} (hr : fn.results = #[.cell a t, .tmp u]) (hv : ρ.lookup a = some (.pointer (some ⟨b, 0, none⟩))) (hx : ρ.lookup u = some x)
 (ht : j5 P t k = true) (hm : (b, Obj.cells C te fr) ∈ L) (hk : C.size = k) (hl : ∀ w, Heap G w L → Heap G w L') (h : Φ (.tuple #[.agg C, x]) L') : TQ G n ρ L .ret (bodyPost P fn (kE G Φ)) :=
 ⟨fun ac w he hw => ⟨he.defers, .tuple #[.agg C, x], by
   obtain ⟨h1, h0⟩ := Jn he hv ht (hw.get _ hm) hk
   have h2 : ac.tmps.getD u undef = x := he.reads (.tmp u) x hx
   rw [Array.getD_eq_getD_getElem?] at h1 h2
   simp only [results, hr]
   simp
   simp [h1, asAddr, h0, h2], _, L', rfl, h, hl w hw⟩⟩
theorem km {fn : Func} {Φ : Value → ja → Prop} (a t u s : Nat) {b k : Nat} {C : Array Value} {te : TypeId} {fr : Nat × Nat} {x y : Value} {L' : ja} (hr : fn.results = #[.cell a t, .tmp u, .tmp s]) (hv : ρ.lookup a = some (.pointer (some ⟨b, 0, none⟩))) (hx : ρ.lookup u = some x) (hy : ρ.lookup s = some y)
 (ht : j5 P t k = true) (hm : (b, Obj.cells C te fr) ∈ L) (hk : C.size = k) (hl : ∀ w, Heap G w L → Heap G w L') (h : Φ (.tuple #[.agg C, x, y]) L') : TQ G n ρ L .ret (bodyPost P fn (kE G Φ)) :=
 ⟨fun ac w he hw => ⟨he.defers, .tuple #[.agg C, x, y], by
   obtain ⟨h1, h0⟩ := Jn he hv ht (hw.get _ hm) hk
   have h2 : ac.tmps.getD u undef = x := he.reads (.tmp u) x hx
   have h3 : ac.tmps.getD s undef = y := he.reads (.tmp s) y hy
   rw [Array.getD_eq_getD_getElem?] at h1 h2 h3
   simp only [results, hr]
   simp
   simp [h1, asAddr, h0, h2, h3], _, L', rfl, h, hl w hw⟩⟩
end Go.Proofs.YtbjkkoacclfejaaGreat
namespace Go.Proofs.YtbjkkoacclfejaaGreat
open Go.RowKit
namespace Vd
abbrev Bytes := List UInt8
structure RSet where
 name : Bytes
 kind : Int
 cls : Int
 ttl : Int
 data : List Bytes
deriving DecidableEq
structure Vdt where
 code : Int
 sets : List RSet
 soa : List RSet
deriving DecidableEq
structure Vote where
 up : Int
 vd : Vdt
 time : Int
deriving DecidableEq
structure Rec where
 name : Bytes
 kind : Int
 cls : Int
 ttl : Int
 data : Bytes
deriving DecidableEq
structure Quest where
 name : Bytes
 kind : Int
 cls : Int
deriving DecidableEq
def RSet.none : RSet := ⟨[], 0, 0, 0, []⟩
def Vdt.none : Vdt := ⟨0, [], []⟩
instance : Inhabited RSet := ⟨RSet.none⟩
instance : Inhabited Vdt := ⟨Vdt.none⟩
instance : Inhabited Vote := ⟨⟨0, Vdt.none, 0⟩⟩
instance : Inhabited Rec := ⟨⟨[], 0, 0, 0, []⟩⟩
end Vd
open Vd (RSet Vdt Vote Rec Quest)
def rsR : Rp RSet := fun L cs s => ∃ d, cs = [.string (bs s.name), .int .u16 s.kind, .int .u16 s.cls, .int .u32 s.ttl, d] ∧ sliceR 1 qB L [d] s.data ∧ s.name.length ≤ maxLen ∧ (0 ≤ s.kind ∧ s.kind ≤ 65535) ∧ (0 ≤ s.cls ∧ s.cls ≤ 65535) ∧ (0 ≤ s.ttl ∧ s.ttl ≤ 4294967295)
def vdR : Rp Vdt := fun L cs v => ∃ a b, cs = [.int .u8 v.code, a, b] ∧ sliceR 5 rsR L [a] v.sets ∧ sliceR 5 rsR L [b] v.soa ∧ (0 ≤ v.code ∧ v.code ≤ 255)
def voteR : Rp Vote := fun L cs x => ∃ a b, cs = [.int .i64 x.up, .int .u8 x.vd.code, a, b, .int .u32 x.time] ∧ sliceR 5 rsR L [a] x.vd.sets ∧ sliceR 5 rsR L [b] x.vd.soa ∧ (0 ≤ x.vd.code ∧ x.vd.code ≤ 255) ∧ (0 ≤ x.time ∧ x.time ≤ 4294967295) ∧ (-9223372036854775808 ≤ x.up ∧ x.up ≤ 9223372036854775807)
def yR : Rp Rec := fun L cs x => cs = [.string (bs x.name), .int .u16 x.kind, .int .u16 x.cls, .int .u32 x.ttl, .string (bs x.data)] ∧ x.name.length ≤ maxLen ∧ x.data.length ≤ maxLen ∧ (0 ≤ x.kind ∧ x.kind ≤ 65535) ∧ (0 ≤ x.cls ∧ x.cls ≤ 65535) ∧ (0 ≤ x.ttl ∧ x.ttl ≤ 4294967295)
theorem jC : uZ rsR := fun L L' cs a hL ⟨d, h1, h2, h3⟩ => ⟨d, h1, jx kK L L' _ _ hL h2, h3⟩
theorem jQ : uZ vdR := fun L L' cs a hL ⟨x, y, h1, h2, h3, h4⟩ => ⟨x, y, h1, jx jC L L' _ _ hL h2, jx jC L L' _ _ hL h3, h4⟩
theorem qf : uZ voteR := fun L L' cs a hL ⟨x, y, h1, h2, h3, h4⟩ => ⟨x, y, h1, jx jC L L' _ _ hL h2, jx jC L L' _ _ hL h3, h4⟩
theorem qx : uZ yR := fun L L' cs a hL h => h
theorem rsR.len {L : ja} {cs : List Value} {s : RSet} (h : rsR L cs s) : cs.length = 5 := by obtain ⟨d, rfl, _⟩ := h; rfl
theorem rsR.one {L : ja} {cs : List Value} {s : RSet} (h : rsR L cs s) : ∀ v ∈ cs, v.oneCell' = true := by
 obtain ⟨d, rfl, hd, _⟩ := h
 obtain ⟨a, c, e, _⟩ := hd
 simp only [List.cons.injEq, and_true] at e
 subst e
 intro v hv
 simp only [List.mem_cons, List.not_mem_nil, or_false] at hv
 rcases hv with rfl | rfl | rfl | rfl | rfl <;> rfl
end Go.Proofs.YtbjkkoacclfejaaGreat
namespace Go.Proofs.YtbjkkoacclfejaaGreat
open Go.RowKit
open Vd (RSet Vdt Vote Rec Quest)
section
variable {P : Program}
theorem UC {t e : TypeId} {a : Option Addr} {m c : Nat} (d : Nat) (w : World) (h : P.underlying t = some (.slice e)) : (Op.equalIn (d + 1) t (.slice a m c) (.slice none 0 0)).run P w = .ok a.isNone w := by
 cases a <;> simp [Op.equalIn, run_underlying h]
theorem abz {t e : TypeId} {a : Option Addr} {m c : Nat} (h : P.underlying t = some (.slice e)) : Bin P .eql t (.slice a m c) (.slice none 0 0) (.bool a.isNone) := ⟨fun x y w => by
 simp only [eqGuard, binOp, uG]
 simp [UC 9999 w h]⟩
end
section
variable {α : Type} {r : Rp α} {sz : Nat} {G : World} {P : Program} {ρ : jG} {L : ja} {ty : TypeId}
theorem VG {C : Array Value} : ∀ (m : List α) (off : Nat), (∀ i x, m[i]? = some x → ∃ cs', cs'.length = sz ∧ r L cs' x ∧ ∀ j v, cs'[j]? = some v → C[off + i * sz + j]? = some v) → ∃ news, Laid r sz L news m ∧ ∀ j v, news[j]? = some v → C[off + j]? = some v
 | [], off, _ => ⟨[], rfl, fun j v h => by simp at h⟩
 | x :: m, off, h => by
   obtain ⟨c, h1, h2, h3⟩ := h 0 x rfl
   obtain ⟨news, k1, k2⟩ := VG m (off + sz) (fun i y hy => by
    obtain ⟨d, q1, q2, q3⟩ := h (i + 1) y (by simpa using hy)
    refine ⟨d, q1, q2, fun j v hj => ?_⟩
    rw [← q3 j v hj]
    congr 1
    rw [Nat.succ_mul]
    omega)
   refine ⟨c ++ news, ⟨c, news, rfl, h1, h2, k1⟩, fun j v hj => ?_⟩
   by_cases hlt : j < c.length
   · rw [List.getElem?_append_left hlt] at hj
     have := h3 j v hj
     rwa [Nat.zero_mul, Nat.add_zero] at this
   · rw [List.getElem?_append_right (by omega)] at hj
     rw [← k2 _ v hj]
     congr 1
     omega
theorem zR {s x : Operand} {t e : TypeId} {sz bytes : Nat} {z v : Value} {m c : Nat} {a : Option Addr} {xs : List Value} {B : ja} (E : ElemTy P t e sz bytes z) (hs : ev ρ s = some v) (hx : ev ρ x = some (.slice a 0 c))
 (hrow : Row e sz v m xs B) (h63 : m + 0 ≤ maxLen) (hby : (m + 0) * bytes ≤ 140737488355328) :
 OpT P G ρ (B ++ L) (.call ⟨.builtin .append, #[s, x], #[t, t]⟩) ty fun v' L' => ∃ B', Row e sz v' (m + 0) (xs ++ []) B' ∧ L' = B' ++ L :=
 ⟨fun r hr w hw o ho _ => by
   obtain ⟨i, hi, hz0, hz1, hz2⟩ := E.info
   have hown := hrow.owns hw
   have key : ∃ v' w', (Builtin.append_ #[t, t] o.type #[v, .slice a 0 c]).run P w = .ok v' w' ∧ w'.ownsRow 0 e sz v' (m + 0) (xs ++ []) ∧ w.grownBy w' v.ownBlock ∧ (v'.ownBlock = v.ownBlock ∨ v'.ownBlock = some w.heap.size) := by
    cases a with
    | none => exact ⟨v, w, Wk w t o.type e i c E.und hi 0 sz v m xs hown, by simpa using hown, ⟨rfl, rfl, rfl, Nat.le_refl _, fun _ _ _ => rfl⟩, Or.inl rfl⟩
    | some x =>
      obtain ⟨v', w', q1, q2, q3, _, q5⟩ := run_append_own_at w 0 t o.type e i z sz bytes E.und hi hz0 hz1 hz2 E.cells E.pos v m xs hown x 0 c [] (by simp)
       (fun j y hj => by simp at hj) (by simp) h63 hby (Nat.zero_le _)
      exact ⟨v', w', q1, q2, q3, q5⟩
   obtain ⟨v', w', hrun, q2, q3, q4⟩ := key
   obtain ⟨B', hB, hH⟩ := hrow.after hw q2 q3 q4
   have : (execOp r o).run P w = .ok (.value v') w' := by
    simp [execOp, ho, hr _ _ hs, hr _ _ hx, resolve, invoke, builtin, hrun, Result.andThen]
   rw [this]
   exact ⟨_, ⟨B', hB, rfl⟩, hH⟩⟩
theorem YM {s x : Operand} {t e : TypeId} {bytes : Nat} {z : Value} {a a2 : Option Addr} {c c2 : Nat} {l m : List α} {B : ja} (E : ElemTy P t e sz bytes z) (hs : ev ρ s = some (.slice a l.length c)) (hx : ev ρ x = some (.slice a2 m.length c2))
 (hrow : ORow r e sz L a c l B) (hr : sliceR sz r L [.slice a2 m.length c2] m) (hone : ∀ cs y, r L cs y → ∀ v ∈ cs, v.oneCell' = true) (h63 : l.length + m.length ≤ maxLen) (hby : (l.length + m.length) * bytes ≤ 140737488355328) :
 OpT P G ρ (B ++ L) (.call ⟨.builtin .append, #[s, x], #[t, t]⟩) ty fun v' L' => ∃ a' c' B', v' = .slice a' (l ++ m).length c' ∧ ORow r e sz L a' c' (l ++ m) B' ∧ L' = B' ++ L := by
 obtain ⟨xs, h1, h2, h3⟩ := hrow.ex
 have hlen : (l ++ m).length = l.length + m.length := by simp
 have laid_one : ∀ (m : List α) (news : List Value), Laid r sz L news m → ∀ v ∈ news, v.oneCell' = true := by
  intro m
  induction m with
  | nil => intro news h v hv; rw [show news = [] from h] at hv; simp at hv
  | cons y m ih =>
    rintro _ ⟨d, ys, rfl, _, q2, q3⟩ v hv
    rcases List.mem_append.1 hv with hv | hv
    · exact hone d y q2 v hv
    · exact ih ys q3 v hv
 obtain ⟨_, _, _, hc⟩ := sliceR.cut hr
 rcases hc with rfl | ⟨b, off, C, te, fr, rfl, q2, q3⟩
 · refine (zR E hs hx h1 h63 hby).post fun v' M ⟨B', k1, k2⟩ => ?_
   obtain ⟨a', c', rfl⟩ := k1.slice
   refine ⟨M, ⟨a', c', B', by rw [hlen]; rfl, ⟨xs, ?_, by simpa using h2, h3⟩, k2⟩, fun w hw => hw⟩
   simpa using k1
 · obtain ⟨news, n1, n2⟩ := VG m off q3
   refine (uA E hs hx h1 ⟨n1.len, laid_one m news n1, Or.inr ⟨b, off, c2, C, te, fr, rfl, q2, n2⟩⟩ h63 hby).post fun v' M ⟨B', k1, k2⟩ => ?_
   obtain ⟨a', c', rfl⟩ := k1.slice
   refine ⟨M, ⟨a', c', B', by rw [hlen], ⟨xs ++ news, by rw [hlen]; exact k1, h2.append n1, fun v hv => ?_⟩, k2⟩, fun w hw => hw⟩
   rcases List.mem_append.1 hv with hv | hv
   · exact h3 v hv
   · exact laid_one m news n1 v hv
end
end Go.Proofs.YtbjkkoacclfejaaGreat
namespace Go.Proofs.YtbjkkoacclfejaaGreat
open Go.RowKit
variable {G : World} {P : Program} {n : Nat} {ρ : jG} {L : ja} {ty : TypeId} {Q : Exit → Act → World → Prop}
def YN (a : Option Addr) (c k sz : Nat) : Option Addr := if c = k then a else a.map (·.add (k * sz))
theorem YO {x lo : Operand} {a : Option Addr} {m c : Nat} {k : IntKind} {i : Int} {t e : TypeId} {sz bytes : Nat} {z : Value} (E : ElemTy P t e sz bytes z) (hx : ev ρ x = some (.slice a m c)) (hlo : ev ρ lo = some (.int k i)) (h0 : 0 ≤ i) (h1 : i ≤ m) :
 OpQ P ρ L (.slice t x (some lo) none none) ty (.slice (YN a c i.toNat sz) (m - i.toNat) (c - i.toNat)) :=
 ⟨fun r hr w hw o ho _ => by
   obtain ⟨inf, q2, q3, q4, q5⟩ := E.info
   simp [execOp, ho, hr _ _ hx, hr _ _ hlo, Instr.sliceAt, run_underlying E.und, Instr.slice, Instr.sliceBounds, Instr.sliceBound, asIntOf, h0, h1, sizeOf, typeInfo, q2, q4, YN]⟩
theorem YP {x lo hi : Operand} {a : Option Addr} {m c : Nat} {k k' : IntKind} {i j : Int} {t e : TypeId} {sz bytes : Nat} {z : Value} (E : ElemTy P t e sz bytes z) (hx : ev ρ x = some (.slice a m c)) (hlo : ev ρ lo = some (.int k i)) (hhi : ev ρ hi = some (.int k' j)) (h0 : 0 ≤ i) (h1 : i ≤ j) (h2 : j ≤ c) :
 OpQ P ρ L (.slice t x (some lo) (some hi) none) ty (.slice (YN a c i.toNat sz) (j.toNat - i.toNat) (c - i.toNat)) :=
 ⟨fun r hr w hw o ho _ => by
   obtain ⟨inf, q2, q3, q4, q5⟩ := E.info
   have h3 : 0 ≤ j := by omega
   have e1 : ((j.toNat : Nat) : Int) = j := by omega
   simp [execOp, ho, hr _ _ hx, hr _ _ hlo, hr _ _ hhi, Instr.sliceAt, run_underlying E.und, Instr.slice, Instr.sliceBounds, Instr.sliceBound, asIntOf, h0, h1, h2, h3, e1, sizeOf, typeInfo, q2, q4, YN]⟩
section
variable {α : Type} {r : Rp α} {sz : Nat}
theorem sliceR.take {a : Option Addr} {m c : Nat} {l : List α} (h : sliceR sz r L [.slice a m c] l) {k : Nat} (hk : k ≤ l.length) : sliceR sz r L [.slice a k c] (l.take k) := by
 obtain ⟨h1, h2, h3, h4⟩ := sliceR.cut h
 refine ⟨a, c, by rw [List.length_take, Nat.min_eq_left hk], by rw [List.length_take]; omega, h3, ?_⟩
 rcases h4 with rfl | ⟨b, off, C, te, fr, rfl, q2, q3⟩
 · left; simp
 · right
   refine ⟨b, off, C, te, fr, rfl, q2, fun i x hx => ?_⟩
   refine q3 i x ?_
   rw [List.getElem?_take] at hx
   split at hx
   · exact hx
   · cases hx
theorem sliceR.drop {a : Option Addr} {m c : Nat} {l : List α} (h : sliceR sz r L [.slice a m c] l) {k : Nat} (hk : k ≤ l.length) : sliceR sz r L [.slice (YN a c k sz) (m - k) (c - k)] (l.drop k) := by
 obtain ⟨h1, h2, h3, h4⟩ := sliceR.cut h
 refine ⟨YN a c k sz, c - k, by rw [List.length_drop, h1], by rw [List.length_drop]; omega, by omega, ?_⟩
 by_cases hkl : k = l.length
 · left; rw [hkl, List.drop_length]
 · rcases h4 with rfl | ⟨b, off, C, te, fr, rfl, q2, q3⟩
   · left; simp
   · right
     have hc : ¬ c = k := by omega
     refine ⟨b, off + k * sz, C, te, fr, by unfold YN; rw [if_neg hc]; simp [qq], q2, fun i x hx => ?_⟩
     rw [List.getElem?_drop] at hx
     obtain ⟨cs', k1, k2, k3⟩ := q3 (k + i) x hx
     refine ⟨cs', k1, k2, fun j v hj => ?_⟩
     rw [← k3 j v hj]
     congr 1
     rw [Nat.add_mul]
     omega
theorem sliceR.at {a : Option Addr} {m c : Nat} {l : List α} (h : sliceR sz r L [.slice a m c] l) {i : Nat} {x : α} (hx : l[i]? = some x) : ∃ b off C te fr, a = some ⟨b, off, none⟩ ∧ (b, Obj.cells C te fr) ∈ L ∧ ∃ cs, cs.length = sz ∧ r L cs x ∧ ∀ j v, cs[j]? = some v → C[off + i * sz + j]? = some v := by
 obtain ⟨_, _, _, h4⟩ := sliceR.cut h
 rcases h4 with rfl | ⟨b, off, C, te, fr, rfl, q2, q3⟩
 · simp at hx
 · exact ⟨b, off, C, te, fr, rfl, q2, q3 i x hx⟩
theorem sliceR.imp {r' : Rp α} {L' : ja} {cs : List Value} {l : List α} (h : sliceR sz r L cs l) (hL : ∀ p ∈ L, p ∈ L') (hr : ∀ cs x, x ∈ l → r L cs x → r' L' cs x) : sliceR sz r' L' cs l := by
 obtain ⟨a, cap, h1, h2, h3, h4⟩ := h
 refine ⟨a, cap, h1, h2, h3, h4.imp id ?_⟩
 rintro ⟨b, off, C, te, fr, q1, q2, q3⟩
 refine ⟨b, off, C, te, fr, q1, hL _ q2, fun i x hx => ?_⟩
 obtain ⟨cs', k1, k2, k3⟩ := q3 i x hx
 exact ⟨cs', k1, hr cs' x (List.mem_of_getElem? hx) k2, k3⟩
theorem Laid.imp {r' : Rp α} {L' : ja} : ∀ {l : List α} {xs : List Value}, Laid r sz L xs l → (∀ cs x, x ∈ l → r L cs x → r' L' cs x) → Laid r' sz L' xs l
 | [], _, h, _ => h
 | x :: l, _, ⟨c, ys, h1, h2, h3, h4⟩, hr => ⟨c, ys, h1, h2, hr c x (List.mem_cons_self ..) h3, Laid.imp h4 fun cs y hy => hr cs y (List.mem_cons_of_mem _ hy)⟩
theorem ORow.imp {r' : Rp α} {L' : ja} {e : TypeId} {a : Option Addr} {c : Nat} {l : List α} {B : ja} (h : ORow r e sz L a c l B) (hr : ∀ cs x, x ∈ l → r L cs x → r' L' cs x) : ORow r' e sz L' a c l B := by
 obtain ⟨xs, h1, h2, h3⟩ := h.ex
 exact ⟨xs, h1, h2.imp hr, h3⟩
theorem ORow.one {e : TypeId} {a : Option Addr} {c : Nat} {l : List α} {B : ja} (h : ORow r e sz L a c l B) : (a = none ∧ B = [] ∧ l = [] ∧ c = 0) ∨ ∃ b cur, a = some ⟨b, 0, none⟩ ∧ B = [(b, .cells cur e (0, 0))] ∧ cur.size = c * sz ∧ l.length ≤ c := by
 obtain ⟨xs, h1, h2, h3⟩ := h.ex
 rcases h1.is with ⟨q1, q2, q3⟩ | ⟨b, cap, cur, q1, q2, q3, q4, q5, q6⟩
 · obtain ⟨rfl, _, rfl⟩ := Value.slice.inj q1
   exact Or.inl ⟨rfl, q3, List.eq_nil_of_length_eq_zero q2, rfl⟩
 · obtain ⟨rfl, _, rfl⟩ := Value.slice.inj q1
   exact Or.inr ⟨b, cur, rfl, q2, q5, q3⟩
theorem ORow.cap {e : TypeId} {a : Option Addr} {c : Nat} {l : List α} {B : ja} (h : ORow r e sz L a c l B) : l.length ≤ c ∧ c ≤ maxLen := by
 obtain ⟨xs, h1, h2, h3⟩ := h.ex
 rcases h1.is with ⟨q1, q2, q3⟩ | ⟨b, cap, cur, q1, q2, q3, q4, q5, q6⟩
 · obtain ⟨rfl, _, rfl⟩ := Value.slice.inj q1
   exact ⟨by omega, by unfold maxLen; omega⟩
 · obtain ⟨rfl, _, rfl⟩ := Value.slice.inj q1
   exact ⟨q3, q4⟩
end
def Wr (N : ja) : Prop := ∀ p ∈ N, ∃ C te, p.2 = Obj.cells C te (0, 0)
theorem Wr.nil : Wr [] := fun p hp => absurd hp (by simp)
theorem Wr.append {A B : ja} (h : Wr A) (k : Wr B) : Wr (A ++ B) := fun p hp => (List.mem_append.1 hp).elim (h p) (k p)
theorem Wr.cons {b : Nat} {C : Array Value} {te : TypeId} {B : ja} (k : Wr B) : Wr ((b, .cells C te (0, 0)) :: B) := fun p hp => by
 rcases List.mem_cons.1 hp with rfl | hp
 · exact ⟨C, te, rfl⟩
 · exact k p hp
theorem ORow.wr {α : Type} {r : Rp α} {sz : Nat} {e : TypeId} {a : Option Addr} {c : Nat} {l : List α} {B : ja} (h : ORow r e sz L a c l B) : Wr B := by
 rcases h.one with ⟨_, rfl, _⟩ | ⟨b, cur, _, rfl, _⟩
 · exact Wr.nil
 · exact Wr.cons Wr.nil
theorem jH {ops : Array Oper} {l : List Oper} {L' : ja} (h : TL P G ops n ρ L' l Q) (hc : ∀ p, cnt p L' ≤ cnt p L) : TL P G ops n ρ L l Q := qI (fun w hw => hw.cnt hc) h
theorem jJ {e : Exit} {L' : ja} (h : TQ G n ρ L' e Q) (hc : ∀ p, cnt p L' ≤ cnt p L) : TQ G n ρ L e Q := ju (fun w hw => hw.cnt hc) h
theorem UP {c : Code} {L' : ja} (h : T P G n ρ L' c Q) (hc : ∀ p, cnt p L' ≤ cnt p L) : T P G n ρ L c Q := aeK (fun w hw => hw.cnt hc) h
theorem j6 {ops : Array Oper} {K : ja} {W : List Nat} {L' : ja} {fuel : Nat} {listed : Array Bool} (h : TA P G ops n K W Q fuel listed ρ L') (hc : ∀ p, cnt p L' = cnt p L) : TA P G ops n K W Q fuel listed ρ L :=
 Vy (fun w hw => hw.cnt fun p => Nat.le_of_eq (hc p)) (fun hk p hp => jW (fun q => Nat.le_of_eq (hc q)) p (hk p hp)) h
theorem kP {α : Type} {r : Rp α} {sz : Nat} {s x : Operand} {t e : TypeId} {bytes j k : Nat} {z : Value} {a a2 : Option Addr} {c c2 : Nat} {l m : List α} {B L0 : ja} (E : ElemTy P t e sz bytes z) (hs : ev ρ s = some (.slice a j c)) (hx : ev ρ x = some (.slice a2 k c2)) (hj : j = l.length) (hk : k = m.length)
 (hrow : ORow r e sz L0 a c l B) (hr : sliceR sz r L0 [.slice a2 m.length c2] m) (hr2 : ∀ q ∈ L0, q ∈ L) (hm : uZ r) (hone : ∀ cs y, r L0 cs y → ∀ v ∈ cs, v.oneCell' = true) (h63 : l.length + m.length ≤ 1000000) (hb : bytes ≤ 1000) :
 OpT P G ρ (B ++ L) (.call ⟨.builtin .append, #[s, x], #[t, t]⟩) ty fun v' L' => ∃ a' c' B', v' = .slice a' (l ++ m).length c' ∧ ORow r e sz L0 a' c' (l ++ m) B' ∧ L' = B' ++ L := by
 subst hj hk
 obtain ⟨xs, h1, h2, h3⟩ := hrow.ex
 have hlen : (l ++ m).length = l.length + m.length := by simp
 have h63' : l.length + m.length ≤ maxLen := by unfold maxLen; omega
 have hby : (l.length + m.length) * bytes ≤ 140737488355328 := Nat.le_trans (Nat.mul_le_mul h63 hb) (by decide)
 have laid_one : ∀ (m : List α) (news : List Value), Laid r sz L0 news m → ∀ v ∈ news, v.oneCell' = true := by
  intro m
  induction m with
  | nil => intro news h v hv; rw [show news = [] from h] at hv; simp at hv
  | cons y m ih =>
    rintro _ ⟨d, ys, rfl, _, q2, q3⟩ v hv
    rcases List.mem_append.1 hv with hv | hv
    · exact hone d y q2 v hv
    · exact ih ys q3 v hv
 obtain ⟨_, _, _, hc⟩ := sliceR.cut hr
 rcases hc with rfl | ⟨b, off, C, te, fr, rfl, q2, q3⟩
 · refine (zR E hs hx h1 h63' hby).post fun v' M ⟨B', k1, k2⟩ => ?_
   obtain ⟨a', c', rfl⟩ := k1.slice
   refine ⟨M, ⟨a', c', B', by rw [hlen]; rfl, ⟨xs, ?_, by simpa using h2, h3⟩, k2⟩, fun w hw => hw⟩
   simpa using k1
 · obtain ⟨news, n1, n2⟩ := VG m off q3
   refine (uA E hs hx h1 ⟨n1.len, laid_one m news n1, Or.inr ⟨b, off, c2, C, te, fr, rfl, hr2 _ q2, n2⟩⟩ h63' hby).post fun v' M ⟨B', k1, k2⟩ => ?_
   obtain ⟨a', c', rfl⟩ := k1.slice
   refine ⟨M, ⟨a', c', B', by rw [hlen], ⟨xs ++ news, by rw [hlen]; exact k1, h2.append n1, fun v hv => ?_⟩, k2⟩, fun w hw => hw⟩
   rcases List.mem_append.1 hv with hv | hv
   · exact h3 v hv
   · exact laid_one m news n1 v hv
end Go.Proofs.YtbjkkoacclfejaaGreat
namespace Go.Proofs.YtbjkkoacclfejaaGreat
open Go.RowKit
variable {G : World} {P : Program} {n : Nat} {ρ : jG} {L : ja} {ty : TypeId} {Q : Exit → Act → World → Prop}
def Mid {σ : Type} (G : World) (n : Nat) (I : σ → Prop) (ρI : σ → jG) (LI : σ → ja) (a : Act) (w : World) : Prop := ∃ x, I x ∧ Env n (ρI x) a ∧ Heap G w (LI x)
theorem KJ {σ : Type} {x y : Code} (I : σ → Prop) (ρI : σ → jG) (LI : σ → ja) (hx : T P G n ρ L x (Exit.then (Mid G n I ρI LI) Q)) (hy : ∀ s, I s → T P G n (ρI s) (LI s) y Q) : T P G n ρ L (.seq x y) Q :=
 kh (VC hx fun e a w h => by
  cases e with
  | normal =>
    obtain ⟨s, h1, h2, h3⟩ := h
    exact (hy s h1).out a w h2 h3
  | _ => exact h)
theorem j9 {σ : Type} {I : σ → Prop} {ρI : σ → jG} {LI : σ → ja} (x : σ) (hI : I x) (hs : Sub (ρI x) ρ) (hl : ∀ w, Heap G w L → Heap G w (LI x)) : TQ G n ρ L .normal (Exit.then (Mid G n I ρI LI) Q) :=
 ⟨fun a w he hw => ⟨x, hI, he.weak hs.get, hl w hw⟩⟩
end Go.Proofs.YtbjkkoacclfejaaGreat
namespace Go.Proofs.YtbjkkoacclfejaaGreat
open Go.RowKit
theorem je {p : Prop} (h : p := by kernel_rfl) : p := h
theorem jd {p : Prop} (h : p := by omega) : p := h
theorem JW {p : Prop} (h : p := by first | assumption | rfl) : p := h
theorem jn {p : Prop} (h : p := by intro p; (try simp only [qn, kL, Qv]) <;> omega) : p := h
theorem jf {A B : ja} (h : ∀ p, cnt p A ≤ cnt p B := by intro p; (try simp only [qn, kL, Qv]) <;> omega) : ∀ p ∈ A, p ∈ B := jW h
theorem Ql {p : Prop} (h : p := by first | assumption | with_reducible rfl | omega) : p := h
theorem ahT {p : Prop} (h : p := by first | assumption | (apply dT; (· exact Ql)) | (apply dF; (· exact Ql)) | (apply eT; (· exact Ql)) | (apply eF; (· exact Ql)) | (apply nT; (· exact Ql)) | (apply nF; (· exact Ql))) : p := h
theorem kp {p : Prop} (h : p := by first | with_reducible rfl | assumption | exact Bool.not_false | exact Bool.not_true | (apply dT; (· exact Ql)) | (apply dF; (· exact Ql)) | (apply eT; (· exact Ql)) | (apply eF; (· exact Ql)) | (apply nT; (· exact Ql)) | (apply nF; (· exact Ql)) | (apply xT; exact ahT) | (apply xF; exact ahT)) : p := h
theorem zK {p : Prop} (h : p := by first | with_reducible rfl | assumption | exact Bool.not_false | exact Bool.not_true) : p := h
theorem u3 {p : Prop} (h : p := by repeat (first | assumption | exact List.mem_cons_self | (apply List.mem_append_left; first | assumption | exact List.mem_cons_self) | apply List.mem_cons_of_mem | apply List.mem_append_right)) : p := h
theorem jr {p : Prop} (h : p := by repeat (first | exact trivial | refine ⟨rfl, ?_⟩)) : p := h
section
variable {P : Program} {G : World} {n : Nat} {ρ : jG} {L : ja} {op : Op} {ty : TypeId} {v : Value} {Q : Exit → Act → World → Prop} {ops : Array Oper}
theorem ajF {o : BinOp} {t : TypeId} {a b : Value} (h : Bin P o t a b v := by first | (apply ac4; (· exact ⟨jd, jd⟩)) | (apply ac5; (· exact ⟨jd, jd⟩)) | (apply ac6; (· exact ⟨jd, jd⟩)) | (apply ac7; (· omega); (· omega); (· exact ⟨jd, jd⟩)) | (apply ac8; (· omega); (· omega)) | (apply ac9) | (apply ada) | (apply adb) | (apply adc) | (apply ZF) | (apply ade) | (apply abe) | (apply abf) | (apply abg) | (apply abh) | (apply abi; first | omega | (simp only [List.length_cons, List.length_nil]; omega)) | (apply abj; (· exact unO)) | (apply abk; (· exact unO)) | (apply Wh; (· exact unO)) | (apply abl; (· exact unO)) | (apply abz; (· exact unO))) : Bin P o t a b v := h
theorem yA  (h : OpQ P ρ L op ty v := by first | (apply uq; (· exact rfl)) | (apply zy; (· exact rfl)) | (apply ui; (· exact rfl); (· exact Qj)) | (apply Wq; (· exact rfl); (· exact plO); (· exact u3); (· exact JW)) | (apply qJ; (· exact rfl); (· exact rfl); (· exact ajF)) | (apply aeN; (· exact etO); (· exact rfl); (· exact rfl); (· omega)) | (apply adk; (· exact etO); (· exact rfl); (· exact rfl); (· omega); (· omega)) | (apply Vt; (· exact rfl); (· exact unO)) | (apply YE; (· exact rfl); (· exact unO)) | (apply yU; (· exact rfl)) | (apply abd; (· exact rfl)) | (apply YD; (· exact rfl); (· exact rfl)) | (apply Wi; (· exact rfl); (· exact unO); (· exact unO); (· exact ⟨jd, jd⟩)) | (apply Wj; (· exact rfl); (· exact unO); (· exact unO)) | (apply Vr; (· exact rfl); (· exact unO); (· exact unO)) | (apply aeO; (· exact rfl); (· exact rfl)) | (apply aeP; (· exact rfl); (· exact rfl)) | (apply Vu; (· exact rfl); (· exact rfl); (· exact unO); (· omega); (· exact JW)) | (apply adn; (· exact arO); (· exact rfl); (· exact rfl); (· omega); (· omega)) | (apply Vw; (· exact rfl); (· exact rfl); (· exact rfl); (· exact unO); (· omega); (· omega); (· omega)) | (apply Uz; (· exact rfl); (· exact rfl); (· exact unO); (· omega); (· omega)) | (apply Ws; (· exact etO); (· exact rfl); (· exact rfl); (· omega); (· omega)) | (apply YO; (· exact etO); (· exact rfl); (· exact rfl); (· omega); (· omega)) | (apply YP; (· exact etO); (· exact rfl); (· exact rfl); (· exact rfl); (· omega); (· omega); (· omega)) | (apply Jk; (· exact rfl); (· exact stO); (· exact u3); (· exact JW)) | (apply aeM; (· exact rfl); (· exact ⟨jd, jd⟩))) : OpQ P ρ L op ty v := h
theorem qqQ {K : ja} {o : Oper} (h : Quiet P G ops K ρ o v := by first | (apply jL; (· exact yA)) | (apply jL; (apply kA; (· exact rfl); (· exact kp); (· exact rfl))) | (apply jL; (apply ku; (· exact rfl); (· exact kp); (· exact rfl))) | (apply kd; (· exact rfl); (· exact rfl); (· exact kp); (· exact yA)) | (apply kd; (· exact rfl); (· exact rfl); (· exact kp); (apply kA; (· exact rfl); (· exact kp); (· exact rfl))) | (apply kd; (· exact rfl); (· exact rfl); (· exact kp); (apply ku; (· exact rfl); (· exact kp); (· exact rfl))) | (apply kx; (· exact rfl); (· exact rfl); (· exact kp)) | (apply Wn; (· exact rfl); (· exact rfl))) : Quiet P G ops K ρ o v := h
theorem tkQ {K : ja} {W : List Nat} {fuel : Nat} {listed : Array Bool} (i : Nat) {d : Nat} {oi : Oper} (h : TA P G ops n K W Q fuel (listed.setIfInBounds i true) ((d, v) :: ρ) L) (hi : ops[i]? = some oi := by rfl) (hd : oi.dst = some d := by rfl) (ht : Wm ops W n listed i d = true := by kernel_rfl)
 (hq : Quiet P G ops K ρ oi v := by exact qqQ) (hK : ∀ p ∈ K, p ∈ L := by first | assumption | (intro p hp; grind)) : TA P G ops n K W Q (fuel + 1) listed ρ L := jp i hi hd ht hq hK h
theorem tdQ {K : ja} {W : List Nat} {fuel : Nat} {listed : Array Bool} (h : TQ G n ρ L .normal Q) (hr : Region.ready .any ops listed = [] := by kernel_rfl) : TA P G ops n K W Q fuel listed ρ L := Qq hr h
theorem jO {d : Nat} {pos : String} {after : Array Edge} {rest : List Oper} {mk : Nat → Value} {ob : Obj} (hr : ∀ b, TL P G ops n ((d, mk b) :: ρ) ((b, ob) :: L) rest Q) (h : OpNew P G ρ L op ty mk ob := by first | (apply aaj; exact zeO) | (apply kk; (· exact zeO); (· exact rfl))) (hd : Nat.blt d n = true := by exact rfl) :
 TL P G ops n ρ L (⟨some d, op, ty, pos, after, none⟩ :: rest) Q := j0 h hd hr
theorem kl {d : Nat} {pos : String} {after : Array Edge} {rest : List Oper} {mk : Nat → Value} {ob : Obj} (hr : ∀ b, TL P G ops n ((d, mk b) :: ρ) ((b, ob) :: L) rest Q) (h : OpNew P G ρ L op ty mk ob := by first | (apply kF; exact rfl) | (apply YG; (· exact rfl); (· exact rfl))) (hd : Nat.blt d n = true := by exact rfl) :
 TL P G ops n ρ L (⟨some d, op, ty, pos, after, none⟩ :: rest) Q := j0 h hd hr
theorem jS {d : Nat} {pos : String} {after : Array Edge} {rest : List Oper} {mk : Nat → Value} {ob : Obj} (hr : ∀ b, TL P G ops n ((d, mk b) :: ρ) ((b, ob) :: L) rest Q) (h : OpNew P G ρ L op ty mk ob := by first | (apply qC; (· exact etO); (· exact rfl); (· exact rfl); (· decide)) | (apply Qr; (· exact etO); (· exact rfl); (· exact rfl))) (hd : Nat.blt d n = true := by exact rfl) :
 TL P G ops n ρ L (⟨some d, op, ty, pos, after, none⟩ :: rest) Q := j0 h hd hr
end
theorem goA {P Q : Prop} (k : Q) (run : Hd Q → P := by intro k; (repeat1' (first | with_reducible apply kZ | with_reducible apply uh | (apply jB; (· exact yA); (· exact rfl)) | with_reducible apply jY | with_reducible apply kh | with_reducible apply uQ | with_reducible apply qT | with_reducible apply uF | with_reducible apply uo | with_reducible apply yS | with_reducible apply KE | with_reducible apply kV | with_reducible apply qi | with_reducible apply kn | with_reducible apply kN | with_reducible apply kW | with_reducible apply kM | with_reducible apply ut | (apply kO; (· decide)) | (apply jB; (· apply kA; (· exact rfl); (· exact kp); (· exact rfl)); (· exact rfl)) | (apply jB; (· apply ku; (· exact rfl); (· exact kp); (· exact rfl)); (· exact rfl)) | (apply ql; (· exact rfl); (· exact rfl); (· exact kp)) | (apply jN; (· exact yA); (· exact rfl)) | (apply jN; (· apply kA; (· exact rfl); (· exact kp); (· exact rfl)); (· exact rfl)) | (apply jN; (· apply ku; (· exact rfl); (· exact kp); (· exact rfl)); (· exact rfl)) | (apply yW; (· exact rfl); (· exact rfl); (· exact kp); (· exact rfl)) | (apply qL; (· exact rfl); (· exact rfl); (· exact rfl)) | (apply ud; (· exact rfl); (· exact rfl); (· exact stO); (· exact rfl); (· exact rfl); (· exact rfl)) | (apply qG; (· exact rfl); (· exact rfl); (· exact onO); (· exact rfl); (· exact JW); (· exact rfl)) | (apply Jg; (· exact rfl); (· exact kp)) | (apply Vz; (· exact rfl); (· exact kp)))); exact k.out) : P := run ⟨k⟩
theorem goB {P Q : Prop} (k : Q) (run : Hd Q → P := by intro k; (repeat1' (first | with_reducible apply kZ | with_reducible apply uh | (apply jB; (· exact yA); (· exact rfl)) | with_reducible apply jY | with_reducible apply kh | with_reducible apply uQ | with_reducible apply qT | with_reducible apply uF | with_reducible apply uo | with_reducible apply yS | with_reducible apply KE | with_reducible apply kV | with_reducible apply qi | with_reducible apply kn | with_reducible apply kN | with_reducible apply kW | with_reducible apply kM | with_reducible apply ut | (apply kO; (· decide)) | (apply jB; (· apply kA; (· exact rfl); (· exact kp); (· exact rfl)); (· exact rfl)) | (apply jB; (· apply ku; (· exact rfl); (· exact kp); (· exact rfl)); (· exact rfl)) | (apply ql; (· exact rfl); (· exact rfl); (· exact kp)) | (apply jN; (· exact yA); (· exact rfl)) | (apply jN; (· apply kA; (· exact rfl); (· exact kp); (· exact rfl)); (· exact rfl)) | (apply jN; (· apply ku; (· exact rfl); (· exact kp); (· exact rfl)); (· exact rfl)) | (apply yW; (· exact rfl); (· exact rfl); (· exact kp); (· exact rfl)) | (apply qL; (· exact rfl); (· exact rfl); (· exact rfl)) | (apply ud; (· exact rfl); (· exact rfl); (· exact stO); (· exact rfl); (· exact rfl); (· exact rfl)) | (apply qG; (· exact rfl); (· exact rfl); (· exact onO); (· exact rfl); (· exact JW); (· exact rfl)) | (apply abs; (· exact rfl); (· exact rfl); (· exact onO); (· exact rfl); (· exact JW); (· exact rfl)) | (apply Jg; (· exact rfl); (· exact kp)) | (apply Vz; (· exact rfl); (· exact kp)))); exact k.out) : P := run ⟨k⟩
theorem goC {P Q : Prop} (k : Q) (run : Hd Q → P := by intro k; (repeat1' (first | with_reducible apply kZ | with_reducible apply uh | (apply jB; (· exact yA); (· exact rfl)) | with_reducible apply jY | with_reducible apply kh | with_reducible apply uQ | with_reducible apply qT | with_reducible apply uF | with_reducible apply uo | with_reducible apply yS | with_reducible apply KE | with_reducible apply kV | with_reducible apply qi | with_reducible apply kn | with_reducible apply kN | with_reducible apply kW | with_reducible apply kM | with_reducible apply ut | (apply kO; (· decide)) | (apply jB; (· apply kA; (· exact rfl); (· exact zK); (· exact rfl)); (· exact rfl)) | (apply jB; (· apply ku; (· exact rfl); (· exact zK); (· exact rfl)); (· exact rfl)) | (apply ql; (· exact rfl); (· exact rfl); (· exact zK)) | (apply jN; (· exact yA); (· exact rfl)) | (apply jN; (· apply kA; (· exact rfl); (· exact zK); (· exact rfl)); (· exact rfl)) | (apply jN; (· apply ku; (· exact rfl); (· exact zK); (· exact rfl)); (· exact rfl)) | (apply yW; (· exact rfl); (· exact rfl); (· exact zK); (· exact rfl)) | (apply qL; (· exact rfl); (· exact rfl); (· exact rfl)) | (apply ud; (· exact rfl); (· exact rfl); (· exact stO); (· exact rfl); (· exact rfl); (· exact rfl)) | (apply qG; (· exact rfl); (· exact rfl); (· exact onO); (· exact rfl); (· exact JW); (· exact rfl)) | (apply Jg; (· exact rfl); (· exact zK)) | (apply Vz; (· exact rfl); (· exact zK)))); exact k.out) : P := run ⟨k⟩
theorem goD {P Q : Prop} (k : Q) (run : Hd Q → P := by intro k; (repeat1' (first | with_reducible apply kZ | with_reducible apply uh | (apply jB; (· exact yA); (· exact rfl)) | with_reducible apply jY | with_reducible apply kh | with_reducible apply uQ | with_reducible apply qT | with_reducible apply uF | with_reducible apply uo | with_reducible apply yS | with_reducible apply KE | with_reducible apply kV | with_reducible apply qi | with_reducible apply kn | with_reducible apply kN | with_reducible apply kW | with_reducible apply kM | with_reducible apply ut | (apply kO; (· decide)) | (apply jB; (· apply kA; (· exact rfl); (· exact zK); (· exact rfl)); (· exact rfl)) | (apply jB; (· apply ku; (· exact rfl); (· exact zK); (· exact rfl)); (· exact rfl)) | (apply ql; (· exact rfl); (· exact rfl); (· exact zK)) | (apply jN; (· exact yA); (· exact rfl)) | (apply jN; (· apply kA; (· exact rfl); (· exact zK); (· exact rfl)); (· exact rfl)) | (apply jN; (· apply ku; (· exact rfl); (· exact zK); (· exact rfl)); (· exact rfl)) | (apply yW; (· exact rfl); (· exact rfl); (· exact zK); (· exact rfl)) | (apply qL; (· exact rfl); (· exact rfl); (· exact rfl)) | (apply ud; (· exact rfl); (· exact rfl); (· exact stO); (· exact rfl); (· exact rfl); (· exact rfl)) | (apply qG; (· exact rfl); (· exact rfl); (· exact onO); (· exact rfl); (· exact JW); (· exact rfl)) | (apply abs; (· exact rfl); (· exact rfl); (· exact onO); (· exact rfl); (· exact JW); (· exact rfl)) | (apply Jg; (· exact rfl); (· exact zK)) | (apply Vz; (· exact rfl); (· exact zK)))); exact k.out) : P := run ⟨k⟩
theorem goE {P Q : Prop} (k : Q) (run : Hd Q → P := by intro k; (repeat1' (first | with_reducible apply kZ | with_reducible apply uh | (apply jB; (· exact yA); (· exact rfl)) | with_reducible apply jY | with_reducible apply kh | with_reducible apply uQ | with_reducible apply qT | with_reducible apply uF | with_reducible apply uo | with_reducible apply yS | with_reducible apply KE | with_reducible apply kV | with_reducible apply qi | with_reducible apply kn | with_reducible apply kN | with_reducible apply kW | with_reducible apply kM | with_reducible apply ut | (apply kO; (· decide)) | (apply jB; (· apply kA; (· exact rfl); (· exact kp); (· exact rfl)); (· exact rfl)) | (apply jB; (· apply ku; (· exact rfl); (· exact kp); (· exact rfl)); (· exact rfl)) | (apply ql; (· exact rfl); (· exact rfl); (· exact kp)) | (apply jN; (· exact yA); (· exact rfl)) | (apply jN; (· apply kA; (· exact rfl); (· exact kp); (· exact rfl)); (· exact rfl)) | (apply jN; (· apply ku; (· exact rfl); (· exact kp); (· exact rfl)); (· exact rfl)) | (apply yW; (· exact rfl); (· exact rfl); (· exact kp); (· exact rfl)) | (apply qL; (· exact rfl); (· exact rfl); (· exact rfl)) | (apply ud; (· exact rfl); (· exact rfl); (· exact stO); (· exact rfl); (· exact rfl); (· exact rfl)) | (apply Jg; (· exact rfl); (· exact kp)) | (apply Vz; (· exact rfl); (· exact kp)))); exact k.out) : P := run ⟨k⟩
theorem goF {P Q : Prop} (k : Q) (run : Hd Q → P := by intro k; (repeat1' (first | with_reducible apply kZ | with_reducible apply uh | (apply jB; (· exact yA); (· exact rfl)) | with_reducible apply jY | with_reducible apply uQ | with_reducible apply qT | with_reducible apply uF | with_reducible apply uo | with_reducible apply yS | with_reducible apply KE | with_reducible apply kV | with_reducible apply qi | with_reducible apply kn | with_reducible apply kN | with_reducible apply kW | with_reducible apply kM | with_reducible apply ut | (apply kO; (· decide)) | (apply jB; (· apply kA; (· exact rfl); (· exact kp); (· exact rfl)); (· exact rfl)) | (apply jB; (· apply ku; (· exact rfl); (· exact kp); (· exact rfl)); (· exact rfl)) | (apply ql; (· exact rfl); (· exact rfl); (· exact kp)) | (apply jN; (· exact yA); (· exact rfl)) | (apply jN; (· apply kA; (· exact rfl); (· exact kp); (· exact rfl)); (· exact rfl)) | (apply jN; (· apply ku; (· exact rfl); (· exact kp); (· exact rfl)); (· exact rfl)) | (apply yW; (· exact rfl); (· exact rfl); (· exact kp); (· exact rfl)) | (apply qL; (· exact rfl); (· exact rfl); (· exact rfl)) | (apply ud; (· exact rfl); (· exact rfl); (· exact stO); (· exact rfl); (· exact rfl); (· exact rfl)) | (apply qG; (· exact rfl); (· exact rfl); (· exact onO); (· exact rfl); (· exact JW); (· exact rfl)) | (apply Jg; (· exact rfl); (· exact kp)) | (apply Vz; (· exact rfl); (· exact kp)))); exact k.out) : P := run ⟨k⟩
theorem aak {P : Program} {ρ : jG} {L : ja} {op : Op} {ty : TypeId} {v : Value} (h : OpQ P ρ L op ty v := by apply jl; (· exact rfl); (· first | exact KG _ _ _ | exact UN _ _ | exact qv _ _ _ _ _ _ _ _ _ _ | exact j8 | exact ZJ _ | exact UO _ _ _ _ | exact yY _ _ _ _ _ _ _ | exact VD _ _ _ | exact yy | exact Qt _ _ _ | exact ZK _ | exact uT _ _ _ _ _ _ _ _ _ _ _ _ | exact ue _ _ _ _ _ | exact Qk _ _ _ _ _ _ _ | exact adp | exact abu _ _ _ | exact YL _ _ _ _ _ _ | exact abv _ | exact ub | exact Jl _ _ _ | exact u7 _ _ _ _ _ _ _ | exact uI _ _ _ _ _ _ | exact KH _ _ | exact yZ _ _ _ _ _ _ _ _ _ _ _ _ _ _ _ _ _ _ _ _ | exact zP _ _ _ _ _ _ | exact abw _ | exact Wv _ | exact zb _ _ _ _ _ _ _ | exact abx _ | exact VE | exact Ww _ | exact QH _ _ | exact Wx _ | exact Qu | exact zQ _ _ _ _ | exact zd _ _ _ _ _ _ _ _ _ _ | exact u9 _ _ _ _ _ | exact Wy _ _ _ _ _ | exact Wz _ | exact yz _ _ _ _ | exact WA _ | exact VF _ _ _ _ _ | exact QI _ _ _ _ _ | exact QJ _ _ _ _ _ _ | exact ze _ | exact QK _ _)) : OpQ P ρ L op ty v := h
end Go.Proofs.YtbjkkoacclfejaaGreat
namespace Go.Proofs.YtbjkkoacclfejaaGreat.Nm
abbrev Bytes := List UInt8
def WD : Nat → Bytes → Option (List Bytes)
 | 0, _ => none
 | _ + 1, [] => none
 | f + 1, c :: t =>
   if c = 0 then (if t = [] then some [] else none)
   else if 63 < c.toNat then none
   else if t.length < c.toNat then none
   else (WD f (t.drop c.toNat)).map (t.take c.toNat :: ·)
theorem UQ : ∀ (f g : Nat) (l : Bytes), l.length ≤ f → l.length ≤ g → WD f l = WD g l
 | 0, 0, _, _, _ => rfl
 | 0, g + 1, l, h, _ => by
   cases l with
   | nil => rfl
   | cons c t => simp at h
 | f + 1, 0, l, _, h => by
   cases l with
   | nil => rfl
   | cons c t => simp at h
 | f + 1, g + 1, [], _, _ => rfl
 | f + 1, g + 1, c :: t, h1, h2 => by
   have e1 : (t.drop c.toNat).length ≤ f := by simp at h1 ⊢; omega
   have e2 : (t.drop c.toNat).length ≤ g := by simp at h2 ⊢; omega
   simp only [WD]
   rw [UQ f g _ e1 e2]
theorem aal (f : Nat) (l : Bytes) (h : l.length ≤ f) : WD f l = WD l.length l := UQ f _ l h (Nat.le_refl _)
def lbl (l : Bytes) : Option (List Bytes) := WD l.length l
theorem adt : lbl [] = none := rfl
theorem lbl_cons (c : UInt8) (t : Bytes) : lbl (c :: t) =
 if c = 0 then (if t = [] then some [] else none)
 else if 63 < c.toNat then none
 else if t.length < c.toNat then none
 else (lbl (t.drop c.toNat)).map (t.take c.toNat :: ·) := by
 unfold lbl
 simp only [WD, List.length_cons]
 rw [aal t.length (t.drop c.toNat) (by simp)]
def nm (l : Bytes) : Option (List Bytes) := if l.length ≤ 255 then lbl l else none
def may (l : Bytes) : Bool := (nm l).isSome
def lowB (c : UInt8) : UInt8 := if 65 ≤ c ∧ c ≤ 90 then c + 32 else c
def low (l : Bytes) : Bytes := l.map lowB
def enc : List Bytes → Bytes
 | [] => [0]
 | l :: ls => UInt8.ofNat l.length :: (l ++ enc ls)
def Ok (ls : List Bytes) : Prop := ∀ l ∈ ls, 1 ≤ l.length ∧ l.length ≤ 63
theorem aeS : Ok [] := by intro l h; cases h
theorem ok_cons {l : Bytes} {ls : List Bytes} : Ok (l :: ls) ↔ (1 ≤ l.length ∧ l.length ≤ 63) ∧ Ok ls := by
 unfold Ok; simp
theorem yB (ls : List Bytes) : (enc ls).length = (ls.map fun l => l.length + 1).sum + 1 := by
 induction ls with
 | nil => rfl
 | cons l ls ih => simp [enc, ih]; omega
theorem length_lt_enc (ls : List Bytes) : ls.length < (enc ls).length := by
 induction ls with
 | nil => simp [enc]
 | cons l ls ih => simp [enc]; omega
theorem Qw : ∀ ls : List Bytes, Ok ls → lbl (enc ls) = some ls
 | [], _ => by simp [enc, lbl_cons]
 | l :: ls, h => by
   obtain ⟨⟨h1, h2⟩, h3⟩ := ok_cons.1 h
   have e : (UInt8.ofNat l.length).toNat = l.length := by simp; omega
   have n0 : ¬ UInt8.ofNat l.length = 0 := by
    intro k
    have := congrArg UInt8.toNat k
    rw [e] at this
    simp at this
    subst this
    simp at h1
   simp only [enc]
   rw [lbl_cons, if_neg n0, e, if_neg jd, if_neg (by simp)]
   simp [Qw ls h3]
theorem WE : ∀ (n : Nat) (l : Bytes) (ls : List Bytes), l.length ≤ n → lbl l = some ls → l = enc ls ∧ Ok ls
 | _, [], _, _, h => by simp [adt] at h
 | 0, _ :: _, _, h, _ => by simp at h
 | n + 1, c :: t, ls, hl, h => by
   rw [lbl_cons] at h
   split at h
   · rename_i hc
     split at h
     · rename_i ht
       cases h
       subst hc ht
       exact ⟨rfl, aeS⟩
     · cases h
   · rename_i hc
     split at h
     · cases h
     · rename_i h63
       split at h
       · cases h
       · rename_i hlen
         have hd : (t.drop c.toNat).length ≤ n := by simp at hl ⊢; omega
         cases hr : lbl (t.drop c.toNat) with
         | none => simp [hr] at h
         | some ls' =>
           simp [hr] at h
           subst h
           obtain ⟨h1, h2⟩ := WE n _ _ hd hr
           have hc1 : 1 ≤ c.toNat := by
            rcases Nat.eq_zero_or_pos c.toNat with h0 | h0
            · exact absurd (UInt8.toNat_inj.1 (by simpa using h0)) hc
            · exact h0
           have ht : (t.take c.toNat).length = c.toNat := by simp; omega
           refine ⟨?_, ok_cons.2 ⟨by omega, h2⟩⟩
           simp only [enc, ht, ← h1, List.take_append_drop]
           congr 1
           exact UInt8.toNat_inj.1 (by simp)
theorem adu {l : Bytes} {ls : List Bytes} : lbl l = some ls ↔ l = enc ls ∧ Ok ls :=
 ⟨fun h => WE l.length l ls (Nat.le_refl _) h, fun h => by rw [h.1]; exact Qw ls h.2⟩
theorem nm_iff {l : Bytes} {ls : List Bytes} : nm l = some ls ↔ l = enc ls ∧ Ok ls ∧ l.length ≤ 255 := by
 unfold nm
 split
 · rename_i h; rw [adu]; simp [h]
 · rename_i h; simp [h]
theorem enc_inj {a b : List Bytes} (ha : Ok a) (hb : Ok b) (h : enc a = enc b) : a = b := by
 have h1 := Qw a ha
 rw [h, Qw b hb] at h1
 exact (Option.some.inj h1).symm
theorem low_length (l : Bytes) : (low l).length = l.length := by simp [low]
theorem low_append (a b : Bytes) : low (a ++ b) = low a ++ low b := by simp [low]
theorem QL (c : UInt8) (h : c.toNat < 65) : lowB c = c := by
 unfold lowB
 rw [if_neg]
 rintro ⟨h1, _⟩
 have := UInt8.le_iff_toNat_le.1 h1
 simp at this
 omega
def lowL (ls : List Bytes) : List Bytes := ls.map low
theorem lowL_ok {ls : List Bytes} (h : Ok ls) : Ok (lowL ls) := by
 intro l hl
 obtain ⟨x, hx, rfl⟩ := List.mem_map.1 hl
 rw [low_length]
 exact h x hx
theorem low_enc : ∀ ls : List Bytes, Ok ls → low (enc ls) = enc (lowL ls)
 | [], _ => by simp [enc, low, lowL, QL]
 | l :: ls, h => by
   obtain ⟨⟨h1, h2⟩, h3⟩ := ok_cons.1 h
   have ih := low_enc ls h3
   have e : (UInt8.ofNat l.length).toNat = l.length := by simp; omega
   have e1 : lowB (UInt8.ofNat l.length) = UInt8.ofNat l.length := QL _ (by rw [e]; omega)
   have : low (enc (l :: ls)) = lowB (UInt8.ofNat l.length) :: (low l ++ low (enc ls)) := by
    simp [enc, low]
   rw [this, e1, ih]
   simp [enc, lowL, low_length]
def fold (n : Bytes) : Bytes := if may n then low n else []
def labels (n : Bytes) : List Bytes := (nm n).getD []
def parentN (n : Bytes) : Bytes := match nm n with | some (_ :: ls) => enc ls | _ => []
def parentB (n : Bytes) : Bool := match nm n with | some (_ :: _) => true | _ => false
def same (a b : Bytes) : Bool := may a && may b && (low a == low b)
def within (n z : Bytes) : Bool :=
 match nm n, nm z with
 | some a, some b => (lowL b).isSuffixOf (lowL a)
 | _, _ => false
theorem may_some {n : Bytes} {ls : List Bytes} (h : nm n = some ls) : may n = true := by simp [may, h]
theorem may_none {n : Bytes} (h : nm n = none) : may n = false := by simp [may, h]
theorem nm_of_may {n : Bytes} (h : may n = true) : ∃ ls, nm n = some ls := Option.isSome_iff_exists.1 h
theorem nm_of_not {n : Bytes} (h : may n = false) : nm n = none := by simpa [may] using h
theorem Jo (a b : List Bytes) : (enc (a ++ b)).length = (a.map fun l => l.length + 1).sum + (enc b).length := by
 rw [yB, yB]; simp; omega
theorem yO (a : List Bytes) : (enc (lowL a)).length = (enc a).length := by
 rw [yB, yB]
 simp only [lowL, List.map_map]
 congr 2
 exact List.map_congr_left fun l _ => by simp [low]
def Upto (a a2 : List Bytes) (zl : Nat) : Prop := (∃ a1, a = a1 ++ a2) ∧ ∀ x y, a = x ++ y → a2.length < y.length → zl < (enc y).length
theorem Upto.start (a : List Bytes) (zl : Nat) : Upto a a zl := by
 refine ⟨⟨[], rfl⟩, fun x y h hl => ?_⟩
 rw [h] at hl
 simp at hl
 omega
theorem Upto.step {a a2 : List Bytes} {l : Bytes} {zl : Nat} (h : Upto a (l :: a2) zl) (hz : zl < (enc (l :: a2)).length) : Upto a a2 zl := by
 obtain ⟨⟨a1, h1⟩, h2⟩ := h
 refine ⟨⟨a1 ++ [l], by simp [h1]⟩, fun x y hxy hl => ?_⟩
 by_cases hq : (l :: a2).length < y.length
 · exact h2 x y hxy hq
 · have hlen : y.length = (l :: a2).length := by simp at hq ⊢; omega
   have : y = l :: a2 := by
    have e := hxy.symm.trans h1
    exact (List.append_inj' e hlen).2
   rw [this]
   exact hz
theorem Upto.fin {a a2 b : List Bytes} (ha : Ok a) (hb : Ok b) (h : Upto a a2 (enc b).length) (hle : (enc a2).length ≤ (enc b).length) :
 (lowL b).isSuffixOf (lowL a) = (low (enc a2) == low (enc b)) := by
 obtain ⟨⟨a1, h1⟩, h2⟩ := h
 have ha2 : Ok a2 := fun l hl => ha l (by rw [h1]; exact List.mem_append_right _ hl)
 rw [Bool.eq_iff_iff, List.isSuffixOf_iff_suffix, beq_iff_eq, low_enc _ ha2, low_enc _ hb]
 constructor
 · rintro ⟨x', hx⟩
   have hal : (lowL a).length = a.length := by simp [lowL]
   have hbl : (lowL b).length = b.length := by simp [lowL]
   have hn : x'.length + b.length = a.length := by
    have := congrArg List.length hx
    simp [hbl, hal] at this
    exact this
   have hy : lowL (a.drop x'.length) = lowL b := by
    have e : lowL a = lowL (a.take x'.length) ++ lowL (a.drop x'.length) := by
     simp only [lowL, ← List.map_append, List.take_append_drop]
    rw [e] at hx
    refine ((List.append_inj' hx ?_).2).symm
    simp [lowL]
    omega
   have hyl : (enc (a.drop x'.length)).length = (enc b).length := by
    rw [← yO, hy, yO]
   have hcases : (a.drop x'.length).length = a2.length := by
    rcases Nat.lt_trichotomy (a.drop x'.length).length a2.length with hlt | heq | hgt
    · exfalso
      have e : a1 ++ a2 = a.take x'.length ++ a.drop x'.length := by rw [← h1, List.take_append_drop]
      have hs : (a2.drop (a2.length - (a.drop x'.length).length)) = a.drop x'.length := by
       have e2 : a1 ++ a2.take (a2.length - (a.drop x'.length).length) ++ a2.drop (a2.length - (a.drop x'.length).length) = a.take x'.length ++ a.drop x'.length := by
        rw [List.append_assoc, List.take_append_drop]
        exact e
       exact (List.append_inj' e2 (by simp at hlt ⊢; omega)).2
      have e3 : (enc a2).length = ((a2.take (a2.length - (a.drop x'.length).length)).map fun l => l.length + 1).sum + (enc (a.drop x'.length)).length := by
       conv => lhs; rw [← List.take_append_drop (a2.length - (a.drop x'.length).length) a2]
       rw [Jo, hs]
      have hpos : 0 < ((a2.take (a2.length - (a.drop x'.length).length)).map fun l => l.length + 1).sum := by
       cases hc : a2.take (a2.length - (a.drop x'.length).length) with
       | nil =>
         have := congrArg List.length hc
         simp at this hlt
         omega
       | cons u v => simp; omega
      omega
    · exact heq
    · exfalso
      have := h2 (a.take x'.length) (a.drop x'.length) (by rw [List.take_append_drop]) hgt
      omega
   have : a.drop x'.length = a2 := by
    have e : a1 ++ a2 = a.take x'.length ++ a.drop x'.length := by rw [← h1, List.take_append_drop]
    exact (List.append_inj' e hcases.symm).2.symm
   rw [← this, hy]
 · intro h
   have := enc_inj (lowL_ok ha2) (lowL_ok hb) h
   rw [h1, ← this]
   exact ⟨lowL a1, by simp [lowL]⟩
end Go.Proofs.YtbjkkoacclfejaaGreat.Nm
namespace Go.Proofs.YtbjkkoacclfejaaGreat
open Go.RowKit
def zL (l : List UInt8) : Value := .string ⟨l.toArray⟩
theorem Jp {a b : Bool} (h : a = b) : Ending.returned (.bool a) = .returned (.bool b) := by rw [h]
theorem VH {a b : ByteArray} (h : a = b) : Ending.returned (.string a) = .returned (.string b) := by rw [h]
theorem ZL (s : ByteArray) (k : Nat) (h : k < s.size) : s.data.toList.drop k = s[k] :: s.data.toList.drop (k + 1) := by
 rw [List.drop_eq_getElem_cons (by simpa using h)]; rfl
theorem aam {l : Nm.Bytes} (h : ¬ 255 < l.length) : Nm.may l = (Nm.lbl l).isSome := by
 unfold Nm.may Nm.nm; rw [if_pos jd]
theorem abA {l : Nm.Bytes} (h : 255 < l.length) : Nm.may l = false := by
 unfold Nm.may Nm.nm; rw [if_neg jd]; rfl
theorem aeT (b o j : Nat) : (⟨b, o, none⟩ : Addr).add j = ⟨b, o + j, none⟩ := by
 unfold Addr.add; split
 · rename_i h; subst h; rfl
 · rfl
theorem WF (w : World) (C : Array Value) (t : TypeId) (fr : Nat × Nat) (k : Nat) (v : Value) :
 (w.alloc (.cells C t fr)).setCell ⟨w.heap.size, k, none⟩ v = w.alloc (.cells (C.setIfInBounds k v) t fr) := by
 show ({ w with heap := (w.heap.push (.cells C t fr)).modify w.heap.size _ } : World) = { w with heap := w.heap.push _ }
 congr 1
 apply Array.ext_getElem?
 intro i
 rw [Array.getElem?_modify]
 by_cases h : w.heap.size = i
 · subst h; simp
 · simp [h, Array.getElem?_push, Ne.symm h]
theorem QM {P : Program} (W : World) (src dst e : TypeId) (b n cap : Nat) (l : List UInt8) (hn : n = l.length) (hs : P.underlying src = some (.slice e)) (he : P.underlying e = some (.int .u8)) (hd : P.underlying dst = some .string)
 (hc : ∀ j (hj : j < l.length), W.cell? ⟨b, j, none⟩ = some (.int .u8 (l[j].toNat : Int))) :
 (convert src dst (.slice (some ⟨b, 0, none⟩) n cap)).run P W = .ok (.string ⟨l.toArray⟩) W := by
 subst hn
 exact run_convert_bytes_back W src dst e ⟨b, 0, none⟩ cap l hs he hd (fun j hj => by rw [aeT, Nat.zero_add]; exact hc j hj)
theorem WG (s : ByteArray) (cap : Nat) : s.size ≤ (bytesRow s cap).size := by
 unfold bytesRow; simp
end Go.Proofs.YtbjkkoacclfejaaGreat
namespace Go.Proofs.YtbjkkoacclfejaaGreat
open Go.RowKit
theorem VI (s : ByteArray) (w : World) (hs : s.size ≤ maxLen) :
 Calls Tryz.prog 37 #[.string s] w fun e w' => e = .returned (.bool (Nm.may s.data.toList)) ∧ w = w' := by
 unfold maxLen at hs
 by_cases h0 : s.size = 0
 · have : s = ByteArray.empty := by simpa using h0
   subst this
   go_enter Tryz.func37, Tryz.ntmps37
   go_wp2
   go_ret
   exact ⟨rfl, rfl⟩
 · have h0' : ((s.size : Int) == 0) = false := beq_eq_false_iff_ne.2 jd
   by_cases hlong : 255 < s.size
   · have hm : Hid (Nm.may s.data.toList = false) := abA (by simpa using hlong)
     go_enter Tryz.func37, Tryz.ntmps37
     go_wp2
     go_ret
     exact ⟨Jp hm.out.symm, rfl⟩
   · have hl' : decide (255 < s.size) = false := by simpa using hlong
     have hm : Hid (Nm.may s.data.toList = (Nm.lbl s.data.toList).isSome) := aam (by simpa using hlong)
     go_enter Tryz.func37, Tryz.ntmps37
     go_wp2
     go_loop [3, 4] (fun i _ => ∃ k : Nat, k ≤ 319 ∧ i = .int .i64 k ∧ (Nm.lbl (s.data.toList.drop k)).isSome = Nm.may s.data.toList) (fun i _ => s.size - (intOf i).toNat)
     case atStart => exact ⟨0, by omega, rfl, by rw [hm.out]; rfl⟩
     case round =>
      obtain ⟨k, hk, rfl, hr⟩ := hrel
      have HR := Lib.hid hr
      clear hr
      by_cases hlt : k < s.size
      · have hd := Lib.hid (ZL s k hlt)
        obtain ⟨c, hc⟩ : ∃ c, s[k] = c := ⟨_, rfl⟩
        have hd2 : Hid (s.data.toList.drop k = c :: s.data.toList.drop (k + 1)) := by have := hd.out; rwa [hc] at this
        clear hd
        have hlen : (s.data.toList.drop (k + 1)).length = s.size - (k + 1) := by simp
        have HL := Lib.hid hlen
        clear hlen
        have hb := c.toNat_lt
        by_cases hz : c = 0
        · subst hz
          go_wp2
          go_ret
          refine ⟨Jp ?_, rfl⟩
          rw [← HR.out, hd2.out, Nm.lbl_cons, if_pos rfl]
          by_cases hq : k + 1 = s.size
          · rw [if_pos (List.eq_nil_of_length_eq_zero (by rw [HL.out]; omega))]
            exact beq_iff_eq.2 jd
          · rw [if_neg (fun hn => by rw [hn] at HL; have := HL.out; simp at this; omega)]
            exact beq_eq_false_iff_ne.2 jd
        · have hz1 : 1 ≤ c.toNat := by
           rcases Nat.eq_zero_or_pos c.toNat with h | h
           · exact absurd (UInt8.toNat_inj.1 (by simpa using h)) hz
           · exact h
          have hz2 : ((c.toNat : Int) == 0) = false := beq_eq_false_iff_ne.2 jd
          have HZ := Lib.hid hz
          clear hz
          by_cases h63 : 63 < c.toNat
          · go_wp2
            go_ret
            refine ⟨Jp ?_, rfl⟩
            rw [← HR.out, hd2.out, Nm.lbl_cons, if_neg HZ.out, if_pos h63]
            rfl
          · go_wp2
            go_round
            case rel =>
             refine ⟨k + (1 + c.toNat), by omega, by go_num, ?_⟩
             rw [← HR.out, hd2.out, Nm.lbl_cons, if_neg HZ.out, if_neg h63]
             by_cases hq : s.size - (k + 1) < c.toNat
             · rw [if_pos (by rw [HL.out]; exact hq), List.drop_of_length_le (by simp; omega)]
               rfl
             · rw [if_neg (by rw [HL.out]; exact hq), List.drop_drop, Option.isSome_map]
               congr 3
               omega
            case measure => simp [intOf]; omega
      · go_wp2
        go_ret
        refine ⟨Jp ?_, rfl⟩
        rw [← HR.out, List.drop_of_length_le (by simp; omega)]
        rfl
end Go.Proofs.YtbjkkoacclfejaaGreat
namespace Go.Proofs.YtbjkkoacclfejaaGreat
open Go.RowKit
theorem WH (c : UInt8) (h1 : 65 ≤ c.toNat) (h2 : c.toNat ≤ 90) : ((Nm.lowB c).toNat : Int) = (c.toNat : Int) + 32 := by
 unfold Nm.lowB
 rw [if_pos ⟨UInt8.le_iff_toNat_le.2 (by simpa using h1), UInt8.le_iff_toNat_le.2 (by simpa using h2)⟩]
 rw [UInt8.toNat_add]
 have : (32 : UInt8).toNat = 32 := rfl
 rw [this]
 omega
theorem ZM (c : UInt8) (h : ¬ (65 ≤ c.toNat ∧ c.toNat ≤ 90)) : Nm.lowB c = c := by
 unfold Nm.lowB
 rw [if_neg]
 rintro ⟨h1, h2⟩
 exact h ⟨by simpa using UInt8.le_iff_toNat_le.1 h1, by simpa using UInt8.le_iff_toNat_le.1 h2⟩
def LowTo (l : List UInt8) (k : Nat) (C : Array Value) : Prop :=
 ∀ j (hj : j < l.length), C[j]? = some (.int .u8 ((if j < k then Nm.lowB l[j] else l[j]).toNat : Int))
theorem LowTo.start (s : ByteArray) (cap : Nat) : LowTo s.data.toList 0 (bytesRow s cap) := by
 intro j hj
 rw [bytesRow_at s cap j (by simpa using hj)]
 simp
theorem LowTo.same {l : List UInt8} {k : Nat} {C : Array Value} (h : LowTo l k C) (hk : k < l.length) (he : Nm.lowB l[k] = l[k]) : LowTo l (k + 1) C := by
 intro j hj
 rw [h j hj]
 by_cases h1 : j < k
 · rw [if_pos h1, if_pos jd]
 · by_cases h2 : j = k
   · subst h2; rw [if_neg h1, if_pos jd, he]
   · rw [if_neg h1, if_neg jd]
theorem LowTo.put {l : List UInt8} {k : Nat} {C : Array Value} (h : LowTo l k C) (hk : k < l.length) (hC : l.length ≤ C.size) : LowTo l (k + 1) (C.setIfInBounds k (.int .u8 ((Nm.lowB l[k]).toNat : Int))) := by
 intro j hj
 by_cases h2 : k = j
 · subst h2; rw [Array.getElem?_setIfInBounds_self_of_lt jd, if_pos jd]
 · rw [Array.getElem?_setIfInBounds_ne h2, h j hj]
   by_cases h1 : j < k
   · rw [if_pos h1, if_pos jd]
   · rw [if_neg h1, if_neg jd]
theorem LowTo.fin {l : List UInt8} {C : Array Value} (h : LowTo l l.length C) (j : Nat) (hj : j < (Nm.low l).length) : C[j]? = some (.int .u8 ((Nm.low l)[j].toNat : Int)) := by
 have hj' : j < l.length := by simpa [Nm.low] using hj
 rw [h j hj', if_pos hj']
 simp [Nm.low]
theorem aan (s : ByteArray) (w : World) (hs : s.size ≤ maxLen) :
 Calls Tryz.prog 124 #[.string s] w fun e w' => e = .returned (.string ⟨(Nm.low s.data.toList).toArray⟩) ∧ Below w.heap.size w w' := by
 unfold maxLen at hs
 have kc := fun (w : World) (s : ByteArray) => run_bytes_of_string (P := Tryz.prog) w 9 149 5 s unO unO unO
 go_enter Tryz.func124, Tryz.ntmps124
 go_wp2
 generalize hcap : grownCap w s.size 0 5 = cap
 clear hcap kc
 have hM := WG s cap
 have hC0 := LowTo.start s cap
 obtain ⟨C0, hC0e⟩ : ∃ C, C = bytesRow s cap := ⟨_, rfl⟩
 rw [← hC0e] at hM hC0 ⊢
 clear hC0e
 go_loopw [4, 5, 10] (fun _ _ i wr => ∃ (k : Nat) (C : Array Value), k ≤ s.size ∧ i = .int .i64 k ∧ C.size = C0.size ∧ LowTo s.data.toList k C ∧ wr = (w.alloc (.cells C 5 (C0.size, C0.size + 1))).drew) (fun _ _ i _ => s.size - (intOf i).toNat)
 case atStart => exact ⟨0, C0, by omega, rfl, rfl, hC0, rfl⟩
 case round =>
  obtain ⟨k, C, hk, rfl, hCs, hC, rfl⟩ := hrel
  have HC := Lib.hid hC
  have HCs := Lib.hid hCs
  clear hC hCs hC0
  by_cases hlt : k < s.size
  · have hcell : (w.alloc (.cells C 5 (C0.size, C0.size + 1))).cell? ⟨w.heap.size, k, none⟩ = some (.int .u8 (s[k].toNat : Int)) := by
     rw [World.cell?_alloc_mark]
     have := HC.out k (by simpa using hlt)
     rw [this, if_neg jd]
     rfl
    have hfr : (w.alloc (.cells C 5 (C0.size, C0.size + 1))).frozen? ⟨w.heap.size, k, none⟩ = false := by
     rw [World.frozen?_alloc_mark]
     simp
     omega
    have hnx := Lib.hid (HC.out.put (k := k) (by simpa using hlt) (by rw [HCs.out]; simpa using hM))
    have hnx2 := Lib.hid (HC.out.same (k := k) (by simpa using hlt))
    obtain ⟨c, hc⟩ : ∃ c, s[k] = c := ⟨_, rfl⟩
    have hc2 : Hid (s.data.toList[k]'(by simpa using hlt) = c) := hc
    have hb := c.toNat_lt
    by_cases h65 : 65 ≤ c.toNat ∧ c.toNat ≤ 90
    · obtain ⟨ha, hz⟩ := h65
      go_wp2
      have hc3 := Lib.hid (WH c ha hz)
      go_wp2
      refine ⟨⟨k + 1, _, by omega, by go_num, ?_, hnx.out, ?_⟩, by simp [intOf]; omega⟩
      · simpa using HCs.out
      · rw [hc2.out, hc3.out, WF]
    · have hsm := Lib.hid (hnx2.out (by rw [hc2.out]; exact ZM c h65))
      go_wp2
      all_goals exact ⟨⟨k + 1, C, by omega, by go_num, HCs.out, hsm.out, rfl⟩, by simp [intOf]; omega⟩
  · obtain rfl : k = s.size := by omega
    have hfin := HC.out
    have hbk := fun W hc => QM (P := Tryz.prog) W 149 9 5 w.heap.size s.size cap (Nm.low s.data.toList) (by simp [Nm.low]) unO unO unO hc
    have hbk2 := hbk (w.alloc (.cells C 5 (C0.size, C0.size + 1))).drew (fun j hj => by
     show (w.alloc (.cells C 5 (C0.size, C0.size + 1))).cell? _ = _
     rw [World.cell?_alloc_mark]
     exact LowTo.fin (by simpa using hfin) j hj)
    clear hbk hfin
    go_wp2
    go_ret
    exact ⟨rfl, ((Below.refl _ _).alloc (Nat.le_refl _) _).drew⟩
end Go.Proofs.YtbjkkoacclfejaaGreat
namespace Go.Proofs.YtbjkkoacclfejaaGreat
open Go.RowKit
theorem KK : (Tryz.prog.info? 9).map (fun i => (i.zero, i.size, i.bytes)) = some (some (.string ByteArray.empty), 1, 16) := by kernel_rfl
end Go.Proofs.YtbjkkoacclfejaaGreat
namespace Go.Proofs.YtbjkkoacclfejaaGreat
open Go.RowKit
theorem abB (s : ByteArray) (w : World) (hs : s.size ≤ maxLen) :
 Calls Tryz.prog 97 #[.string s] w fun e w' => e = .returned (zL (Nm.fold s.data.toList)) ∧ Below w.heap.size w w' := by
 cases hm : Nm.may s.data.toList with
 | false =>
   have hv : Nm.fold s.data.toList = [] := by simp [Nm.fold, hm]
   have HV := Lib.hid hv
   have HM := Lib.hid hm
   clear hv hm
   go_enter Tryz.func97, Tryz.ntmps97
   go_wp2_with fail
   refine (VI _ _ hs).mono ?_
   rintro e w' ⟨rfl, rfl⟩
   rw [HM.out]
   go_wp2_with fail
   go_ret
   rw [HV.out]
   exact ⟨rfl, Below.refl _ _⟩
 | true =>
   have hv : Nm.fold s.data.toList = Nm.low s.data.toList := by simp [Nm.fold, hm]
   have HV := Lib.hid hv
   have HM := Lib.hid hm
   clear hv hm
   go_enter Tryz.func97, Tryz.ntmps97
   go_wp2_with fail
   refine (VI _ _ hs).mono ?_
   rintro e w' ⟨rfl, rfl⟩
   rw [HM.out]
   go_wp2_with fail
   refine (aan _ _ hs).mono ?_
   rintro e w' ⟨rfl, hb⟩
   go_wp2_with fail
   go_ret
   rw [HV.out]
   exact ⟨rfl, hb⟩
end Go.Proofs.YtbjkkoacclfejaaGreat
namespace Go.Proofs.YtbjkkoacclfejaaGreat
open Go.RowKit
def SRow (w : World) (v : Value) (ns : List Nm.Bytes) : Prop :=
 ∃ a cap, v = .slice a ns.length cap ∧ (ns = [] ∨ ∃ b off, a = some ⟨b, off, none⟩ ∧ b < w.heap.size ∧ ∀ i n, ns[i]? = some n → w.cell? ⟨b, off + i, none⟩ = some (zL n))
theorem SRow.below {w w' : World} {v : Value} {ns : List Nm.Bytes} (h : SRow w v ns) {B : Nat} (hb : Below B w w') (hB : w.heap.size ≤ B) : SRow w' v ns := by
 obtain ⟨a, cap, hv, h⟩ := h
 refine ⟨a, cap, hv, h.imp id ?_⟩
 rintro ⟨b, off, ha, hlt, hc⟩
 refine ⟨b, off, ha, Nat.lt_of_lt_of_le hlt hb.size, fun i n hi => ?_⟩
 rw [hb.cell (Nat.lt_of_lt_of_le hlt hB)]
 exact hc i n hi
theorem SRow.own {w : World} {base : Nat} {v : Value} {ns : List Nm.Bytes} {e : TypeId} (h : w.ownsRow base e 1 v ns.length (ns.map zL)) : SRow w v ns := by
 obtain ⟨_, ⟨rfl, h0⟩ | ⟨g, cap, cur, rfl, _, hg, _, _, _, htk⟩⟩ := h
 · have : ns = [] := List.eq_nil_of_length_eq_zero h0
   subst this
   exact ⟨none, 0, rfl, Or.inl rfl⟩
 · refine ⟨_, cap, rfl, Or.inr ⟨g, 0, rfl, (Array.getElem?_eq_some_iff.1 hg).1, fun i n hi => ?_⟩⟩
   have hil : i < ns.length := (List.getElem?_eq_some_iff.1 hi).1
   unfold World.cell?
   rw [hg]
   have : (cur.toList.take (ns.length * 1))[i]? = some (zL n) := by rw [htk, List.getElem?_map, hi]; rfl
   rw [List.getElem?_take_of_lt jd] at this
   simpa using this
end Go.Proofs.YtbjkkoacclfejaaGreat
namespace Go.Proofs.YtbjkkoacclfejaaGreat
open Go.RowKit
def WI : List Nm.Bytes → List Nm.Bytes → Int
 | [], [] => 0
 | [], _ :: _ => -1
 | _ :: _, [] => 1
 | x :: xs, y :: ys => if Lib.compareBytes x y = 0 then WI xs ys else Lib.compareBytes x y
def ahU (a b : List Nm.Bytes) : Int := WI (Nm.lowL a).reverse (Nm.lowL b).reverse
def Jq (n m : Nm.Bytes) : Int := match Nm.nm n, Nm.nm m with | some a, some b => ahU a b | _, _ => 0
theorem yP : ∀ a b : List UInt8, Lib.compareBytes a b = -1 ∨ Lib.compareBytes a b = 0 ∨ Lib.compareBytes a b = 1
 | [], [] => by simp [Lib.compareBytes]
 | [], _ :: _ => by simp [Lib.compareBytes]
 | _ :: _, [] => by simp [Lib.compareBytes]
 | a :: r, b :: t => by
   unfold Lib.compareBytes
   split
   · simp
   · split
     · simp
     · exact yP r t
end Go.Proofs.YtbjkkoacclfejaaGreat
namespace Go.Proofs.YtbjkkoacclfejaaGreat
namespace Vd
structure Piece where
 s : Bytes
 nam : Bool
deriving DecidableEq
def layout (k : Int) : Option (Nat × Nat × Nat) :=
 if k = 1 then some (4, 0, 0) else if k = 28 then some (16, 0, 0) else if k = 2 ∨ k = 5 ∨ k = 12 then some (0, 1, 0) else if k = 15 then some (2, 1, 0) else if k = 6 then some (0, 2, 20) else if k = 33 then some (6, 1, 0) else none
def txtOk : Nat → Bytes → Bool
 | 0, _ => true
 | _ + 1, [] => true
 | f + 1, c :: t => if c.toNat ≤ t.length then txtOk f (t.drop c.toNat) else false
def rdName (msg : Bytes) : Nat → Nat → Nat → Int → Bytes → Option (Bytes × Int × Int)
 | 0, _, _, _, _ => none
 | f + 1, pos, ahead, next, n =>
   match msg[pos]? with
   | none => some ([], 0, 4)
   | some b =>
     if b.toNat = 0 then some (n ++ [0], if next < 0 then (pos : Int) + 1 else next, 0)
     else if 192 ≤ b.toNat then
      match msg[pos + 1]? with
      | none => some ([], 0, 4)
      | some c =>
        if ahead ≤ (b.toNat - 192) * 256 + c.toNat then some ([], 0, 8)
        else rdName msg f ((b.toNat - 192) * 256 + c.toNat) ((b.toNat - 192) * 256 + c.toNat) (if next < 0 then (pos : Int) + 2 else next) n
     else if 64 ≤ b.toNat then some ([], 0, 3)
     else if msg.length < pos + 1 + b.toNat then some ([], 0, 4)
     else if 255 < (n ++ (msg.drop pos).take (1 + b.toNat)).length + 1 then some ([], 0, 5)
     else rdName msg f (pos + 1 + b.toNat) ahead next (n ++ (msg.drop pos).take (1 + b.toNat))
def rdFuel (ahead : Nat) (n : Bytes) : Nat := ahead * 256 + (256 - n.length) + 1
theorem YQ (ahead : Nat) (n : Bytes) : 1 ≤ rdFuel ahead n := Nat.succ_le_succ (Nat.zero_le _)
theorem WJ {a b : Nat} {n : Bytes} (h : b < a) : rdFuel b n < rdFuel a n := by unfold rdFuel; omega
theorem aao {a : Nat} {n m : Bytes} (h : n.length < m.length) (h2 : m.length ≤ 255) : rdFuel a m < rdFuel a n := by unfold rdFuel; omega
theorem rdName_some (msg : Bytes) : ∀ (f pos ahead : Nat) (next : Int) (n : Bytes), rdFuel ahead n ≤ f → ∃ r, rdName msg f pos ahead next n = some r := by
 intro f
 induction f with
 | zero => intro pos ahead next n h; exact absurd (Nat.le_trans (YQ ahead n) h) (by decide)
 | succ f ih =>
   intro pos ahead next n h
   simp only [rdName]
   cases h1 : msg[pos]? with
   | none => exact ⟨_, rfl⟩
   | some b =>
     dsimp only
     by_cases c1 : b.toNat = 0
     · rw [if_pos c1]; exact ⟨_, rfl⟩
     rw [if_neg c1]
     by_cases c2 : 192 ≤ b.toNat
     · rw [if_pos c2]
       cases h2 : msg[pos + 1]? with
       | none => exact ⟨_, rfl⟩
       | some c =>
         dsimp only
         by_cases c3 : ahead ≤ (b.toNat - 192) * 256 + c.toNat
         · rw [if_pos c3]; exact ⟨_, rfl⟩
         rw [if_neg c3]
         exact ih _ _ _ _ (by have := WJ (n := n) (Nat.lt_of_not_le c3); omega)
     rw [if_neg c2]
     by_cases c4 : 64 ≤ b.toNat
     · rw [if_pos c4]; exact ⟨_, rfl⟩
     rw [if_neg c4]
     by_cases c5 : msg.length < pos + 1 + b.toNat
     · rw [if_pos c5]; exact ⟨_, rfl⟩
     rw [if_neg c5]
     by_cases c6 : 255 < (n ++ (msg.drop pos).take (1 + b.toNat)).length + 1
     · rw [if_pos c6]; exact ⟨_, rfl⟩
     rw [if_neg c6]
     refine ih _ _ _ _ ?_
     have : (n ++ (msg.drop pos).take (1 + b.toNat)).length = n.length + (1 + b.toNat) := by rw [List.length_append, List.length_take, List.length_drop]; omega
     have := aao (a := ahead) (n := n) (m := n ++ (msg.drop pos).take (1 + b.toNat)) jd jd
     omega
def readName (msg : Bytes) (pos : Int) : Bytes × Int × Int :=
 if pos < 0 ∨ (msg.length : Int) < pos then ([], 0, 1) else (rdName msg (rdFuel pos.toNat []) pos.toNat pos.toNat (-1) []).getD ([], 0, 0)
def names (msg : Bytes) : Nat → Nat → List Piece → Nat × List Piece × Int
 | 0, pos, out => (pos, out, 0)
 | k + 1, pos, out => match readName msg pos with
   | (n, next, e) => if e ≠ 0 then (pos, out, e) else names msg k next.toNat (out ++ [⟨n, true⟩])
def pieces (msg : Bytes) (pos : Nat) (k : Int) : List Piece × Int :=
 if k = 41 then ([], 3)
 else if k = 16 then (if msg.drop pos = [] then ([], 4) else if txtOk (msg.length + 1) (msg.drop pos) then ([⟨msg.drop pos, false⟩], 0) else ([], 4))
 else match layout k with
  | none => ([⟨msg.drop pos, false⟩], 0)
  | some (a, m, b) =>
    if msg.length - pos < a then ([], 4)
    else match names msg m (pos + a) [⟨(msg.drop pos).take a, false⟩] with
     | (p, out, e) => if e ≠ 0 then ([], e) else if msg.length < p + b then ([], 4) else if p + b < msg.length then ([], 3) else (out ++ [⟨msg.drop p, false⟩], 0)
def joined (l : List Piece) : Bytes := l.flatMap (·.s)
def whole (k : Int) (d : Bytes) : List Piece × Bool := if (pieces d 0 k).2 ≠ 0 ∨ joined (pieces d 0 k).1 ≠ d then ([], false) else ((pieces d 0 k).1, true)
def mayD (k : Int) (d : Bytes) : Bool := (whole k d).2
def foldP (p : Piece) : Bytes := if p.nam then Nm.fold p.s else p.s
def foldD (k : Int) (d : Bytes) : Bytes := (whole k d).1.flatMap foldP
def before (a b : RSet) : Bool := if Jq a.name b.name ≠ 0 then decide (Jq a.name b.name < 0) else if a.kind ≠ b.kind then decide (a.kind < b.kind) else decide (a.cls < b.cls)
def gtB (a b : Bytes) : Bool := !(Op.bytesLess a b || a == b)
def putGo (s : Bytes) : List Bytes → List Bytes → Bool → List Bytes ⊕ (List Bytes × Bool)
 | [], out, done => .inr (out, done)
 | x :: l, out, done => if x = s then .inl [] else if !done && gtB x s then putGo s l ((out ++ [s]) ++ [x]) true else putGo s l (out ++ [x]) done
def put (l : List Bytes) (s : Bytes) : List Bytes := match putGo s l [] false with
 | .inl _ => l
 | .inr (out, done) => if done then out else out ++ [s]
def timeT (t : Int) : Int := if 2147483647 < t then 0 else t
def hasKey (s : RSet) (n : Bytes) (k c : Int) : Bool := s.name == n && s.kind == k && s.cls == c
def keyAt (sets : List RSet) (n : Bytes) (k c : Int) : Nat → Option Nat
 | 0 => none
 | j + 1 => match sets[j]? with
   | some s => if hasKey s n k c then some j else keyAt sets n k c j
   | none => keyAt sets n k c j
def addRec (sets : List RSet) (x : Rec) : List RSet :=
 if Nm.may x.name && mayD x.kind x.data then
  match keyAt sets (Nm.fold x.name) x.kind x.cls sets.length with
  | none => sets ++ [⟨Nm.fold x.name, x.kind, x.cls, timeT x.ttl, [foldD x.kind x.data]⟩]
  | some j => match sets[j]? with
    | some s => sets.set j { s with ttl := min s.ttl (timeT x.ttl), data := put s.data (foldD x.kind x.data) }
    | none => sets
 else sets
def gather (l : List Rec) : List RSet := l.foldl addRec []
def leastAt (sets : List RSet) : Nat → Nat
 | 0 => 0
 | j + 1 => match sets[j + 1]?, sets[leastAt sets j]? with
   | some s, some t => if before s t then j + 1 else leastAt sets j
   | _, _ => leastAt sets j
def rise : Nat → List RSet → List RSet
 | 0, _ => []
 | _ + 1, [] => []
 | f + 1, s :: l => (match (s :: l)[leastAt (s :: l) l.length]? with | some x => [x] | none => []) ++ rise f ((s :: l).eraseIdx (leastAt (s :: l) l.length))
def group (l : List Rec) : List RSet := rise (gather l).length (gather l)
def findS (l : List RSet) (n : Bytes) (k c : Int) : RSet × Bool := match l.find? fun s => Nm.same s.name n && s.kind == k && s.cls == c with
 | some s => (s, true)
 | none => (RSet.none, false)
structure Trail where
 chain : List RSet
 pos : Bytes
 last : List RSet
 e : Int
deriving DecidableEq
def trailEnd (q : Quest) (l : List RSet) (pos : Bytes) (chain : List RSet) : Trail :=
 if (findS l pos q.kind q.cls).2 then ⟨chain, pos, [(findS l pos q.kind q.cls).1], 0⟩ else ⟨chain, pos, [], 0⟩
def followGo (q : Quest) (l : List RSet) : Nat → Bytes → List Bytes → List RSet → Trail
 | 0, pos, _, chain => trailEnd q l pos chain
 | f + 1, pos, met, chain =>
   if q.kind = 5 then trailEnd q l pos chain
   else if !(findS l pos 5 q.cls).2 then trailEnd q l pos chain
   else if 8 ≤ chain.length then ⟨[], [], [], 5⟩
   else match (findS l pos 5 q.cls).1.data with
    | [d] =>
      if !Nm.may d || (findS l pos q.kind q.cls).2 then ⟨[], [], [], 3⟩
      else if met.contains (Nm.fold d) then ⟨[], [], [], 8⟩
      else followGo q l f (Nm.fold d) (met ++ [Nm.fold d]) (chain ++ [(findS l pos 5 q.cls).1])
    | _ => ⟨[], [], [], 3⟩
def follow (q : Quest) (l : List RSet) : Trail := if Nm.may q.name then followGo q l 9 (Nm.fold q.name) [Nm.fold q.name] [] else ⟨[], [], [], 1⟩
def nLabels (n : Bytes) : Nat := (Nm.labels n).length
def fits (s : RSet) (n : Bytes) (c : Int) : Bool := s.kind == 6 && s.cls == c && Nm.within n s.name
def bestAt (l : List RSet) (n : Bytes) (c : Int) : Nat → Int
 | 0 => -1
 | j + 1 => match l[j]? with
   | some s => if fits s n c && (decide (bestAt l n c j < 0) || (match l[(bestAt l n c j).toNat]? with | some t => decide (nLabels t.name < nLabels s.name) | none => false)) then (j : Int) else bestAt l n c j
   | none => bestAt l n c j
def findSoa (l : List RSet) (n : Bytes) (c : Int) : RSet × Bool × Int :=
 if bestAt l n c l.length < 0 then (RSet.none, false, 0) else match l[(bestAt l n c l.length).toNat]? with
  | some s => if s.data.length ≠ 1 then (RSet.none, false, 3) else (s, true, 0)
  | none => (RSet.none, false, 0)
def last4 (d : Bytes) : Int := (d.drop (d.length - 4)).foldl (fun n c => (n * 256 + c.toNat) % 4294967296) (0 : Int)
def soaTime (s : RSet) : Int := if s.kind ≠ 6 then 0 else match s.data with
 | [d] => if mayD 6 d then (if 2147483647 < last4 d ∨ 2147483647 < s.ttl then 0 else min (last4 d) s.ttl) else 0
 | _ => 0
def leastT (l : List RSet) (t : Int) : Int := l.foldl (fun t s => min t s.ttl) t
def bare (s : RSet) : RSet := { s with ttl := 0 }
structure Msg where
 code : Int
 answers : List Rec
 auth : List Rec
def ofM (q : Quest) (m : Msg) : Vdt × Int × Int :=
 if !Nm.may q.name || (m.code != 0 && m.code != 3) then (Vdt.none, 0, 1)
 else match follow q (group m.answers) with
  | ⟨l, pos, last, e⟩ =>
    if e ≠ 0 then (Vdt.none, 0, e)
    else if m.code = 3 ∧ last ≠ [] then (Vdt.none, 0, 3)
    else if last ≠ [] then (⟨m.code, (l ++ last).map bare, []⟩, leastT (l ++ last) 2147483647, 0)
    else match findSoa (group m.auth) pos q.cls with
     | (s, is, e) =>
       if e ≠ 0 then (Vdt.none, 0, e)
       else if !is then (⟨m.code, (l ++ last).map bare, []⟩, 0, 0)
       else (⟨m.code, (l ++ last).map bare, [bare s]⟩, min (leastT (l ++ last) 2147483647) (soaTime s), 0)
def endV (q : Quest) (v : Vdt) : RSet × Bool := match v.sets.getLast? with
 | some s => if s.kind = q.kind then (s, true) else (RSet.none, false)
 | none => (RSet.none, false)
end Vd
end Go.Proofs.YtbjkkoacclfejaaGreat
namespace Go.Proofs.YtbjkkoacclfejaaGreat
namespace Vd
structure Ballot where
 v : Vote
 pass : Bool
deriving DecidableEq
structure Said where
 up : Int
 m : Msg
 time : Int
def hasB (l : List Ballot) (u : Int) : Bool := l.any fun b => b.v.up == u
def putB (l : List Ballot) (x : Ballot) : List Ballot × Int :=
 if x.v.up < 0 ∨ 9 ≤ x.v.up then (l, 1) else if hasB l x.v.up then (l, 7) else (l ++ [x], 0)
def votesB (l : List Ballot) : List Vote := (l.filter fun b => !b.pass).map (·.v)
def castSaid (q : Quest) (l : List Ballot) (s : Said) : List Ballot :=
 if (ofM q s.m).2.2 = 0 then (putB l ⟨⟨s.up, (ofM q s.m).1, s.time⟩, false⟩).1 else l
def aiQ (q : Quest) (l : List Said) : List Vote := votesB (l.foldl (castSaid q) [])
def firstAt (l : List Vote) : Nat → Nat
 | 0 => 0
 | j + 1 => match l[j]?, l[firstAt l j]? with
   | some v, some w => if v.up < w.up then j else firstAt l j
   | _, _ => firstAt l j
def minTime (l : List Vote) (t : Int) : Int := l.foldl (fun t v => min t v.time) t
def alikeV (l : List Vote) (w : Vdt) : Bool := l.all fun v => decide (v.vd = w)
def endsPut (q : Quest) (l : List Vote) (d : List Bytes) : List Bytes := l.foldl (fun d v => if (endV q v.vd).2 then (endV q v.vd).1.data.foldl put d else d) d
def union (q : Quest) (l : List Vote) : Vdt × Int × Bool :=
 match l with
 | [] => (Vdt.none, 0, false)
 | w :: r =>
   if !Nm.may q.name then (Vdt.none, 0, false)
   else if alikeV (w :: r) w.vd || decide (endsPut q (w :: r) [] = []) then (match (w :: r)[firstAt (w :: r) (w :: r).length]? with | some x => x.vd | none => Vdt.none, minTime (w :: r) w.time, true)
   else (⟨0, [⟨Nm.fold q.name, q.kind, q.cls, 0, endsPut q (w :: r) []⟩], []⟩, minTime (w :: r) w.time, true)
end Vd
end Go.Proofs.YtbjkkoacclfejaaGreat
