/- The sum of a million letters: plain Lean. (Printed by a program of mine, wip/million.py.) -/
import Derived.Test.YtcfohdkdppiekaaFastSha
namespace Go.Proofs.Ytcfohdkdppiekaa
/-- a block of letters -/
def blkA : List UInt8 := List.replicate 64 97
def kwA : List Nat := [2750124281, 3533219314, 4683095344, 5554781446, 2595759036, 3142742866, 4087407621, 4504535094, 5258152953, 1944370274, 2240997151, 3060653860, 3558850261, 3795850079, 4248659976, 4881994453, 7962470397, 8149304770, 1109373709, 1449834259, 1332383432, 1811277571, 5697566716, 4336890837, 4651386783, 7023905028, 4167673427, 6075095564, 3506461443, 6222891004, 3100717738, 957412701, 3211936012, 2525724465, 5192624004, 2750766458, 3733122911, 5785415788, 5302099131, 4510137934, 4494867471, 3051847127, 6841751890, 5493434369, 5416391400, 6288792078, 4206943767, 1385611443, 2838015846, 4615462549, 2870002303, 4911289699, 3868675357, 5105900214, 4192983651, 4114851946, 2567787456, 3518289627, 3043469264, 3431775655, 2875437985, 3700493388, 7133747437, 3572068108]
set_option maxRecDepth 100000 in
theorem kwA_eq : kws (sch blkA 48) = kwA := by decide +kernel
/-- one block more -/
def inA (s : St) : St := blk s blkA
theorem inA_ok (s : St) : (inA s).ok := blk_ok s blkA
def stA0 : St := ⟨1779033703, 3144134277, 1013904242, 2773480762, 1359893119, 2600822924, 528734635, 1541459225⟩
def stA1 : St := ⟨2980184124, 4055252723, 380558326, 3848951136, 619917395, 3724953604, 1241085446, 2795455954⟩
set_option maxRecDepth 100000 in
theorem goA1 : itf inA 625 stA0 = stA1 := itf_of blkA kwA kwA_eq inA (fun _ => rfl) 625 stA0 stA1 (by constructor <;> decide) (by decide +kernel)
def stA2 : St := ⟨3480499010, 1333227246, 884393318, 2192927904, 2339805852, 2416519719, 2298295811, 2434603153⟩
set_option maxRecDepth 100000 in
theorem goA2 : itf inA 625 stA1 = stA2 := itf_of blkA kwA kwA_eq inA (fun _ => rfl) 625 stA1 stA2 (by constructor <;> decide) (by decide +kernel)
def stA3 : St := ⟨3817410241, 129848790, 4156440462, 740622841, 449295930, 2859383890, 2573751462, 4092511495⟩
set_option maxRecDepth 100000 in
theorem goA3 : itf inA 625 stA2 = stA3 := itf_of blkA kwA kwA_eq inA (fun _ => rfl) 625 stA2 stA3 (by constructor <;> decide) (by decide +kernel)
def stA4 : St := ⟨2480449054, 887052842, 3735950646, 2529967085, 2552717231, 2132796822, 2247734032, 1574115203⟩
set_option maxRecDepth 100000 in
theorem goA4 : itf inA 625 stA3 = stA4 := itf_of blkA kwA kwA_eq inA (fun _ => rfl) 625 stA3 stA4 (by constructor <;> decide) (by decide +kernel)
def stA5 : St := ⟨316970583, 4221150854, 311357983, 64105143, 1164177717, 1807858894, 2571004778, 2276785209⟩
set_option maxRecDepth 100000 in
theorem goA5 : itf inA 625 stA4 = stA5 := itf_of blkA kwA kwA_eq inA (fun _ => rfl) 625 stA4 stA5 (by constructor <;> decide) (by decide +kernel)
def stA6 : St := ⟨3451735173, 1992480860, 4114376705, 4207124144, 1301879602, 2314567675, 2863845554, 413343649⟩
set_option maxRecDepth 100000 in
theorem goA6 : itf inA 625 stA5 = stA6 := itf_of blkA kwA kwA_eq inA (fun _ => rfl) 625 stA5 stA6 (by constructor <;> decide) (by decide +kernel)
def stA7 : St := ⟨25303342, 1446205656, 22677385, 2976249951, 462609797, 3758847419, 1575596734, 4081208719⟩
set_option maxRecDepth 100000 in
theorem goA7 : itf inA 625 stA6 = stA7 := itf_of blkA kwA kwA_eq inA (fun _ => rfl) 625 stA6 stA7 (by constructor <;> decide) (by decide +kernel)
def stA8 : St := ⟨4101075154, 129573525, 758111687, 2809097055, 2946173745, 4125254953, 3590949913, 2694474649⟩
set_option maxRecDepth 100000 in
theorem goA8 : itf inA 625 stA7 = stA8 := itf_of blkA kwA kwA_eq inA (fun _ => rfl) 625 stA7 stA8 (by constructor <;> decide) (by decide +kernel)
def stA9 : St := ⟨249274935, 97276911, 2625192275, 852671802, 2930304310, 3421827650, 450703807, 2891257336⟩
set_option maxRecDepth 100000 in
theorem goA9 : itf inA 625 stA8 = stA9 := itf_of blkA kwA kwA_eq inA (fun _ => rfl) 625 stA8 stA9 (by constructor <;> decide) (by decide +kernel)
def stA10 : St := ⟨3950689631, 1183676483, 523787800, 1079288165, 3531020339, 1967142716, 4113132345, 1750149100⟩
set_option maxRecDepth 100000 in
theorem goA10 : itf inA 625 stA9 = stA10 := itf_of blkA kwA kwA_eq inA (fun _ => rfl) 625 stA9 stA10 (by constructor <;> decide) (by decide +kernel)
def stA11 : St := ⟨92662511, 2039292810, 2812368728, 1398842276, 369889284, 3416214735, 196742846, 4050250501⟩
set_option maxRecDepth 100000 in
theorem goA11 : itf inA 625 stA10 = stA11 := itf_of blkA kwA kwA_eq inA (fun _ => rfl) 625 stA10 stA11 (by constructor <;> decide) (by decide +kernel)
def stA12 : St := ⟨3644021289, 3318186913, 3635780383, 3250820814, 1352957489, 568761720, 3897415568, 2084911344⟩
set_option maxRecDepth 100000 in
theorem goA12 : itf inA 625 stA11 = stA12 := itf_of blkA kwA kwA_eq inA (fun _ => rfl) 625 stA11 stA12 (by constructor <;> decide) (by decide +kernel)
def stA13 : St := ⟨2770629724, 3718244748, 1426248302, 1485112788, 2393428728, 2730147097, 2068496129, 955849718⟩
set_option maxRecDepth 100000 in
theorem goA13 : itf inA 625 stA12 = stA13 := itf_of blkA kwA kwA_eq inA (fun _ => rfl) 625 stA12 stA13 (by constructor <;> decide) (by decide +kernel)
def stA14 : St := ⟨1991337870, 2309255265, 3993853711, 1510319335, 975131125, 1966570908, 2691746226, 549922638⟩
set_option maxRecDepth 100000 in
theorem goA14 : itf inA 625 stA13 = stA14 := itf_of blkA kwA kwA_eq inA (fun _ => rfl) 625 stA13 stA14 (by constructor <;> decide) (by decide +kernel)
def stA15 : St := ⟨2229091582, 1247898798, 3129489793, 801003700, 3664384409, 2135943812, 1655664929, 4043692830⟩
set_option maxRecDepth 100000 in
theorem goA15 : itf inA 625 stA14 = stA15 := itf_of blkA kwA kwA_eq inA (fun _ => rfl) 625 stA14 stA15 (by constructor <;> decide) (by decide +kernel)
def stA16 : St := ⟨1482359619, 3053920332, 2218581276, 956914467, 3284847132, 1532092920, 4107310820, 2931061524⟩
set_option maxRecDepth 100000 in
theorem goA16 : itf inA 625 stA15 = stA16 := itf_of blkA kwA kwA_eq inA (fun _ => rfl) 625 stA15 stA16 (by constructor <;> decide) (by decide +kernel)
def stA17 : St := ⟨2671872303, 3494736969, 250824018, 496096432, 3522633456, 3909563648, 361649023, 839489138⟩
set_option maxRecDepth 100000 in
theorem goA17 : itf inA 625 stA16 = stA17 := itf_of blkA kwA kwA_eq inA (fun _ => rfl) 625 stA16 stA17 (by constructor <;> decide) (by decide +kernel)
def stA18 : St := ⟨185797383, 1717202109, 1189823254, 219299165, 1089675585, 3146653644, 666783934, 2760782249⟩
set_option maxRecDepth 100000 in
theorem goA18 : itf inA 625 stA17 = stA18 := itf_of blkA kwA kwA_eq inA (fun _ => rfl) 625 stA17 stA18 (by constructor <;> decide) (by decide +kernel)
def stA19 : St := ⟨3420580859, 3753318278, 2910203626, 3238094755, 2261397776, 2929822888, 3194009251, 2296366361⟩
set_option maxRecDepth 100000 in
theorem goA19 : itf inA 625 stA18 = stA19 := itf_of blkA kwA kwA_eq inA (fun _ => rfl) 625 stA18 stA19 (by constructor <;> decide) (by decide +kernel)
def stA20 : St := ⟨1527903575, 643982266, 137930256, 1901535836, 1469484063, 211280277, 2609170097, 3664365886⟩
set_option maxRecDepth 100000 in
theorem goA20 : itf inA 625 stA19 = stA20 := itf_of blkA kwA kwA_eq inA (fun _ => rfl) 625 stA19 stA20 (by constructor <;> decide) (by decide +kernel)
def stA21 : St := ⟨1782389935, 2251650807, 681093295, 2649148146, 1901012235, 2437441946, 16189232, 3449983928⟩
set_option maxRecDepth 100000 in
theorem goA21 : itf inA 625 stA20 = stA21 := itf_of blkA kwA kwA_eq inA (fun _ => rfl) 625 stA20 stA21 (by constructor <;> decide) (by decide +kernel)
def stA22 : St := ⟨1569553612, 654178797, 3862343199, 1717473844, 141936283, 2363548559, 2018722472, 3397912081⟩
set_option maxRecDepth 100000 in
theorem goA22 : itf inA 625 stA21 = stA22 := itf_of blkA kwA kwA_eq inA (fun _ => rfl) 625 stA21 stA22 (by constructor <;> decide) (by decide +kernel)
def stA23 : St := ⟨1965015889, 2320629160, 4007832554, 3991684233, 1295030224, 2131979557, 1814944490, 3770481227⟩
set_option maxRecDepth 100000 in
theorem goA23 : itf inA 625 stA22 = stA23 := itf_of blkA kwA kwA_eq inA (fun _ => rfl) 625 stA22 stA23 (by constructor <;> decide) (by decide +kernel)
def stA24 : St := ⟨3286924927, 1855780753, 2608627564, 176370035, 705989294, 1480277143, 2994088020, 951416902⟩
set_option maxRecDepth 100000 in
theorem goA24 : itf inA 625 stA23 = stA24 := itf_of blkA kwA kwA_eq inA (fun _ => rfl) 625 stA23 stA24 (by constructor <;> decide) (by decide +kernel)
def stA25 : St := ⟨2061136107, 1745259042, 791610055, 2140370626, 1884297759, 3529239238, 671294972, 693152569⟩
set_option maxRecDepth 100000 in
theorem goA25 : itf inA 625 stA24 = stA25 := itf_of blkA kwA kwA_eq inA (fun _ => rfl) 625 stA24 stA25 (by constructor <;> decide) (by decide +kernel)
theorem goA : itf inA 15625 stA0 = stA25 := by
  rw [show 15625 = ((((((((((((((((((((((((625 + 625) + 625) + 625) + 625) + 625) + 625) + 625) + 625) + 625) + 625) + 625) + 625) + 625) + 625) + 625) + 625) + 625) + 625) + 625) + 625) + 625) + 625) + 625) + 625) from rfl]
  simp only [itf_add, goA1, goA2, goA3, goA4, goA5, goA6, goA7, goA8, goA9, goA10, goA11, goA12, goA13, goA14, goA15, goA16, goA17, goA18, goA19, goA20, goA21, goA22, goA23, goA24, goA25]
end Go.Proofs.Ytcfohdkdppiekaa
